/- CommitOf: the walk. -/
import Derived.Test.YtgnmdnmmemdemaaRefC
set_option maxRecDepth 100000
set_option linter.unusedVariables false
namespace Go.Proofs.Ytgnmdnmmemdemaa
open Go Go.RowKit Go.Gv

theorem opC_len {i : Int} {v : Value} {h : List Int} (hl : h.length = 32) : (opC i v h).length = 34 := by simp [opC, hl]
theorem size_opening : (Try.prog.info? 52).map (·.size) = some 34 := by kernel_rfl
theorem opC_one {i : Int} {v : Value} {h : List Int} (hv : v.cells = #[v] ∧ v.oneCell' = true) : ∀ u ∈ opC i v h, u.oneCell' = true := by
  intro u hu
  simp only [opC, List.cons_append, List.nil_append, List.mem_cons] at hu
  rcases hu with rfl | rfl | hu
  · rfl
  · exact hv.2
  · exact ints_oneCell .u8 _ u hu
set_option maxHeartbeats 8000000 in
theorem CommitOf_walk (a b f k : Int) (h ps qs0 : List Int) (c : Cm) (v1 v2 : Value) (twin : Bool) (ha : I64 a) (hb : I64 b) (hh : HK h) (hc : c.OK) (w : World) (hp : RdR (fun k => k < w.heap.size) ps.length w v1 ps) (hq : RdR (fun k => k < w.heap.size) qs0.length w v2 qs0) :
    Calls Try.prog 5 #[.agg #[.int .i64 a, .int .i64 b], hv h, v1, v2, c.val, .agg #[.int .i64 f, .int .i64 k], .bool twin] w fun e w' => e = .returned (.bool true) ∧ Mod (fun _ => False) w w' := by
  have HA := Lib.hid ha
  have HB := Lib.hid hb
  have HH := Lib.hid hh
  have HC := Lib.hid hc
  have HP0 := Lib.hid hp
  have HQ0 := Lib.hid hq
  clear ha hb hh hc hp hq
  change Calls _ _ #[.agg #[.int .i64 a, .int .i64 b], .agg (h.map bv).toArray, v1, v2, .agg c.cells.toArray, .agg #[.int .i64 f, .int .i64 k], .bool twin] _ _
  go_enter Try.func5, Try.ntmps5
  go_upto_region 1 with (fail)
  obtain ⟨w1, hw1⟩ : ∃ z, z = (((w.alloc (.cells #[.int .i64 a, .int .i64 b] 26)).alloc (.cells (h.map bv).toArray 28)).alloc (.cells c.cells.toArray 32)).alloc (.cells #[.int .i64 f, .int .i64 k] 24) := ⟨_, rfl⟩
  change Code.wp _ _ _ _ ((((w.alloc (.cells #[.int .i64 a, .int .i64 b] 26)).alloc (.cells (h.map bv).toArray 28)).alloc (.cells c.cells.toArray 32)).alloc (.cells #[.int .i64 f, .int .i64 k] 24))
  rw [← hw1]
  have KN1 := Lib.hid (show Cs w1 w.heap.size #[.int .i64 a, .int .i64 b] 26 by rw [hw1]; exact (((Cs.new _ _ _).alloc _).alloc _).alloc _)
  have KH1 := Lib.hid (show Cs w1 (w.heap.size + 1) (h.map bv).toArray 28 by rw [hw1]; exact ((Cs_new1 _ _ _ _).alloc _).alloc _)
  have KC1 := Lib.hid (show Cs w1 (w.heap.size + 1 + 1) c.cells.toArray 32 by
    rw [hw1]
    have := Cs_new1 (w.alloc (.cells #[.int .i64 a, .int .i64 b] 26)) (.cells (h.map bv).toArray 28) c.cells.toArray 32
    rw [show (w.alloc (.cells #[.int .i64 a, .int .i64 b] 26)).heap.size = w.heap.size + 1 by simp] at this
    exact this.alloc _)
  have KF1 := Lib.hid (show Cs w1 (w.heap.size + 1 + 1 + 1) #[.int .i64 f, .int .i64 k] 24 by
    rw [hw1]
    have := Cs_new1 ((w.alloc (.cells #[.int .i64 a, .int .i64 b] 26)).alloc (.cells (h.map bv).toArray 28)) (.cells c.cells.toArray 32) #[.int .i64 f, .int .i64 k] 24
    rwa [show ((w.alloc (.cells #[.int .i64 a, .int .i64 b] 26)).alloc (.cells (h.map bv).toArray 28)).heap.size = w.heap.size + 1 + 1 by simp] at this)
  have KM1 := Lib.hid (show Mod (fun _ => False) w w1 by rw [hw1]; exact ((((Mod.refl _ _).alloc _).alloc _).alloc _).alloc _)
  have hs1 : w1.heap.size = w.heap.size + 4 := by rw [hw1]; simp
  clear hw1
  go_wp2_with fail
  refine (Cut_R 100 (HP0.out.mod KM1.out (fun _ _ h => h)) (by decide)).mono ?_
  rintro e w2 ⟨v', rfl, ho, hm⟩
  obtain ⟨bs, hbs⟩ : ∃ bs, bs = ps.take 100 := ⟨_, rfl⟩
  rw [← hbs] at ho
  have HLB' := Lib.hid ho.2.2
  have HP2 := Lib.hid ho.1.rd
  have HPB := Lib.hid ho.2.1
  have z2 := hm.size
  have KM2 := Lib.hid (KM1.out.trans hm (fun _ _ h => h))
  have KN2 := Lib.hid (KN1.out.mod hm (fun h => h))
  have KH2 := Lib.hid (KH1.out.mod hm (fun h => h))
  have KC2 := Lib.hid (KC1.out.mod hm (fun h => h))
  have KF2 := Lib.hid (KF1.out.mod hm (fun h => h))
  clear hm ho hbs KN1 KH1 KC1 KF1 KM1 HP0
  go_wp2_with fail
  refine (Cut_R 100 (HQ0.out.mod KM2.out (fun _ _ h => h)) (by decide)).mono ?_
  rintro e wx ⟨v2', rfl, ho, hm⟩
  have HPx := Lib.hid (HP2.out.mod hm (fun _ _ _ h => h))
  have HQx := Lib.hid (show RdR (fun _ => True) 100 wx v2' (qs0.take 100) from ho.rd.widen (fun _ _ => trivial) (Nat.le_refl _))
  have zx := hm.size
  have KMx := Lib.hid (KM2.out.trans hm (fun _ _ h => h))
  have KNx := Lib.hid (KN2.out.mod hm (fun h => h))
  have KHx := Lib.hid (KH2.out.mod hm (fun h => h))
  have KCx := Lib.hid (KC2.out.mod hm (fun h => h))
  have KFx := Lib.hid (KF2.out.mod hm (fun h => h))
  clear hm ho KN2 KH2 KC2 KF2 KM2 HQ0 HP2
  have HLB := Lib.hid (show bs.length ≤ 800000 by have := HLB'.out; omega)
  go_upto_if 21 with (fail)
  go_cut [3] from 21 (fun t3 w' => ∃ qs : List Int, RdR (fun _ => True) 100 w' t3 qs ∧ Mod (fun _ => False) wx w')
  case first =>
    cases twin with
    | false => go_wp2_with fail; go_meet; case rel => exact ⟨_, HQx.out, Mod.refl _ _⟩
    | true =>
      go_wp2_with fail
      refine (Copy_R (R := fun _ => True) (N := 100) ⟨HPx.out, (fun _ _ _ => trivial), HLB'.out⟩ (by decide)).mono ?_
      rintro e wy ⟨vy, rfl, hy, hmy⟩
      have KY := Lib.hid (show RdR (fun _ => True) 100 wy vy bs from hy.rd.widen (fun _ _ => trivial) (Nat.le_refl _))
      have KMy := Lib.hid hmy
      clear hy hmy
      go_wp2_with fail
      go_meet
      case rel => exact ⟨_, KY.out, KMy.out⟩
  case rest =>
    obtain ⟨w3, rfl⟩ : ∃ z, z = wc := ⟨_, rfl⟩
    obtain ⟨qs, hq, hm⟩ := hcut
    have HQ3 := Lib.hid hq.1
    have HLQ := Lib.hid (show qs.length ≤ 800000 by have := hq.2.2; omega)
    obtain ⟨aq, cq, hvq⟩ := hq.shape
    have HVQ := Lib.hid (show u3.cells = #[u3] ∧ u3.oneCell' = true by rw [hvq]; exact ⟨rfl, rfl⟩)
    have HP3 := Lib.hid (HPx.out.mod hm (fun _ _ _ h => h))
    have KM3 := Lib.hid (KMx.out.trans hm (fun _ _ h => h))
    have z3 := hm.size
    have KN3 := Lib.hid (KNx.out.mod hm (fun h => h))
    have KH3 := Lib.hid (KHx.out.mod hm (fun h => h))
    have KC3 := Lib.hid (KCx.out.mod hm (fun h => h))
    have KF3 := Lib.hid (KFx.out.mod hm (fun h => h))
    clear hq hm hvq HPx HQx KMx KNx KHx KCx KFx
    have HPA := Lib.hid (show Apart v' bs.length (fun j => w3.heap.size ≤ j) from fun h0 g hg h => by have := HP3.out.block_lt h0 g hg; omega)
    have HQA := Lib.hid (show Apart u3 qs.length (fun j => w3.heap.size ≤ j) from fun h0 g hg h => by have := HQ3.out.block_lt h0 g hg; omega)
    go_upto_region 4 with (fail)
    generalize ha0 : Act.mk _ _ = a0
    have oe2 : a0.eval (.tmp 2) = v' := by rw [← ha0]; rfl
    have oe7 : a0.eval (.tmp 7) = .pointer (some ⟨w.heap.size, 0, none⟩) := by rw [← ha0]; rfl
    have oe8 : a0.eval (.tmp 8) = .pointer (some ⟨w.heap.size + 1, 0, none⟩) := by rw [← ha0]; rfl
    have oe11 : a0.eval (.tmp 11) = .pointer (some ⟨w.heap.size + 1 + 1, 0, none⟩) := by rw [← ha0]; rfl
    have oe12 : a0.eval (.tmp 12) = .pointer (some ⟨w.heap.size + 1 + 1 + 1, 0, none⟩) := by rw [← ha0]; rfl
    have hsz0 : a0.tmps.size = 67 := by rw [← ha0]; rfl
    have HA0 := Lib.hid ha0
    clear ha0
    refine wp_region_A 67 hsz0 (by kernel_rfl) (by kernel_rfl) [24, 25, 26, 27, 15, 72] (by kernel_rfl) (by decide) (fun j => w3.heap.size ≤ j) (fun _ _ => False) (fun _ _ h => h.elim) Still (fun _ _ _ h => h) (fun _ _ _ hm h => hm.trans h (fun _ _ h => h.elim)) [gi (.agg #[.int .i64 a, .int .i64 b]), gi (hv h), gi (v'), gi (hv (shaF (ofT a b h bs))), ga, ga] ⟨gi_stable, gi_stable, gi_stable, gi_stable, ga_stable, ga_stable, trivial⟩ [] (by kernel_rfl) (by decide) (by kernel_rfl) (fun _ _ => True) (fun _ _ _ _ _ => trivial) trivial [⟨4, 5, 28, [.int .u8 0, .int .u8 0, .int .u8 0, .int .u8 0, .int .u8 0, .int .u8 0, .int .u8 0, .int .u8 0, .int .u8 0, .int .u8 0, .int .u8 0, .int .u8 0, .int .u8 0, .int .u8 0, .int .u8 0, .int .u8 0, .int .u8 0, .int .u8 0, .int .u8 0, .int .u8 0, .int .u8 0, .int .u8 0, .int .u8 0, .int .u8 0, .int .u8 0, .int .u8 0, .int .u8 0, .int .u8 0, .int .u8 0, .int .u8 0, .int .u8 0, .int .u8 0], (shaF (ofT a b h bs)).map bv⟩] (by kernel_rfl) (by intro r hr; simp only [List.mem_cons, List.not_mem_nil, or_false] at hr; rcases hr with rfl <;> exact ⟨rfl, rfl⟩) (fun _ _ h => h.elim) (fun _ h => h) stillA (fun _ _ _ _ _ _ => trivial) (AllEnd.get _ ⟨gi_end, gi_end, gi_end, gi_end, ga_end, ga_end, trivial⟩) (by intro r hr; simp only [List.mem_cons, List.not_mem_nil, or_false] at hr; rcases hr with rfl <;> exact ⟨of_decide_eq_true (by kernel_rfl), of_decide_eq_true (by kernel_rfl)⟩) (by intro r hr; simp only [List.mem_cons, List.not_mem_nil, or_false] at hr; rcases hr with rfl <;> exact fun _ _ _ => ⟨trivial, trivial⟩) ⟨?_, ?_, ?_, ?_, ?_, ?_, trivial⟩ ?_
    · refine ⟨fun r hr e => ?_, fun r hr e => ?_, fun hno => ?_⟩
      · simp only [List.mem_cons, List.not_mem_nil, or_false] at hr
        rcases hr with rfl
        · simp at e
      · simp only [List.mem_cons, List.not_mem_nil, or_false] at hr
        rcases hr with rfl
        · simp at e
      · intro tr act w' hm hout hsz hd hG hk hub
        exact jg_run (by rfl) rfl (wanted_none rfl) (ex_loadA rfl Try.underlying26 rfl (off := 0) (cs := [.int .i64 a, .int .i64 b]) (by kernel_rfl) ((hout 7 (by decide)).trans oe7) (Cs.whole (KN3.out.mod hm (by omega)))) (Mod.refl _ _) rfl
    · refine ⟨fun r hr e => ?_, fun r hr e => ?_, fun hno => ?_⟩
      · simp only [List.mem_cons, List.not_mem_nil, or_false] at hr
        rcases hr with rfl
        · simp at e
      · simp only [List.mem_cons, List.not_mem_nil, or_false] at hr
        rcases hr with rfl
        · simp at e
      · intro tr act w' hm hout hsz hd hG hk hub
        exact jg_run (by rfl) rfl (wanted_none rfl) (ex_loadA rfl Try.underlying28 rfl (off := 0) (cs := h.map bv) (by rw [List.length_map, HH.out.1]; exact size_hash) ((hout 8 (by decide)).trans oe8) (Cs.whole (KH3.out.mod hm (by omega)))) (Mod.refl _ _) rfl
    · refine ⟨fun r hr e => ?_, fun r hr e => ?_, fun hno => ?_⟩
      · simp only [List.mem_cons, List.not_mem_nil, or_false] at hr
        rcases hr with rfl
        · simp at e
      · simp only [List.mem_cons, List.not_mem_nil, or_false] at hr
        rcases hr with rfl
        · simp at e
      · intro tr act w' hm hout hsz hd hG hk hub
        exact jg_run (by rfl) rfl (wanted_none rfl) (ex_move rfl ((hout 2 (by decide)).trans oe2)) (Mod.refl _ _) rfl
    · refine ⟨fun r hr e => ?_, fun r hr e => ?_, fun hno => ?_⟩
      · simp only [List.mem_cons, List.not_mem_nil, or_false] at hr
        rcases hr with rfl
        · simp at e
      · simp only [List.mem_cons, List.not_mem_nil, or_false] at hr
        rcases hr with rfl
        · simp at e
      · intro tr act w' hm hout hsz hd hG hk hub
        have h0 := hd ⟨0, .data⟩ (by simp) rfl _ rfl
        have h1 := hd ⟨1, .data⟩ (by simp) rfl _ rfl
        have h2 := hd ⟨2, .data⟩ (by simp) rfl _ rfl
        refine jg_call (args := #[.agg #[.int .i64 a, .int .i64 b], hv h, v']) (by rfl) rfl (wanted_none rfl) (by rw [ex_callF rfl Try.func24 (by kernel_rfl) (by kernel_rfl)]; exact congrArg (fun z => Result.ok (Next.enter _ z) _) (by simp only [List.map_toArray, List.map_cons, List.map_nil, show act.eval (.tmp 24) = _ from h0, show act.eval (.tmp 25) = _ from h1, show act.eval (.tmp 26) = _ from h2]; try rfl)) (Of_any a b h bs v' _ HA.out HB.out HH.out.1 HH.out.2 (HP3.out.mod hm HPA.out) HLB.out) ?_
        rintro e w2 ⟨rfl, hm2⟩
        exact ⟨_, rfl, hm2, rfl⟩
    · refine ⟨fun r hr e => ?_, fun r hr e => ?_, fun hno => ?_⟩
      · simp only [List.mem_cons, List.not_mem_nil, or_false] at hr
        rcases hr with rfl
        · exact ⟨rfl, rfl, by kernel_rfl, (by rw [List.length_map, shaF_len]; rfl), (ints_oneCell .u8 _), (by rw [List.length_map, shaF_len]; exact size_hash)⟩
      · simp only [List.mem_cons, List.not_mem_nil, or_false] at hr
        rcases hr with rfl
        · simp at e
      · exact absurd rfl (hno ⟨4, 5, 28, [.int .u8 0, .int .u8 0, .int .u8 0, .int .u8 0, .int .u8 0, .int .u8 0, .int .u8 0, .int .u8 0, .int .u8 0, .int .u8 0, .int .u8 0, .int .u8 0, .int .u8 0, .int .u8 0, .int .u8 0, .int .u8 0, .int .u8 0, .int .u8 0, .int .u8 0, .int .u8 0, .int .u8 0, .int .u8 0, .int .u8 0, .int .u8 0, .int .u8 0, .int .u8 0, .int .u8 0, .int .u8 0, .int .u8 0, .int .u8 0, .int .u8 0, .int .u8 0], (shaF (ofT a b h bs)).map bv⟩ (by simp)).1
    · refine ⟨fun r hr e => ?_, fun r hr e => ?_, fun hno => ?_⟩
      · simp only [List.mem_cons, List.not_mem_nil, or_false] at hr
        rcases hr with rfl
        · simp at e
      · simp only [List.mem_cons, List.not_mem_nil, or_false] at hr
        rcases hr with rfl
        · refine ⟨rfl, _, (.tmp 27), rfl, by decide, rfl, by kernel_rfl, by kernel_rfl, fun tr act w' hm hout hd hG => ?_⟩
          have h3 := hd ⟨3, .data⟩ (by simp) rfl _ rfl
          rw [show act.eval ((.tmp 27)) = _ from h3]
          rfl
      · exact absurd rfl (hno ⟨4, 5, 28, [.int .u8 0, .int .u8 0, .int .u8 0, .int .u8 0, .int .u8 0, .int .u8 0, .int .u8 0, .int .u8 0, .int .u8 0, .int .u8 0, .int .u8 0, .int .u8 0, .int .u8 0, .int .u8 0, .int .u8 0, .int .u8 0, .int .u8 0, .int .u8 0, .int .u8 0, .int .u8 0, .int .u8 0, .int .u8 0, .int .u8 0, .int .u8 0, .int .u8 0, .int .u8 0, .int .u8 0, .int .u8 0, .int .u8 0, .int .u8 0, .int .u8 0, .int .u8 0], (shaF (ofT a b h bs)).map bv⟩ (by simp)).2
    intro vs tr w4 hl htl hm hG hV hAL hNE
    obtain ⟨v0, vs0, rfl, hl0⟩ := list_cons hl
    obtain ⟨v1, vs1, rfl, hl1⟩ := list_cons hl0
    obtain ⟨v2, vs2, rfl, hl2⟩ := list_cons hl1
    obtain ⟨v3, vs3, rfl, hl3⟩ := list_cons hl2
    obtain ⟨v4, vs4, rfl, hl4⟩ := list_cons hl3
    obtain ⟨v5, vs5, rfl, hl5⟩ := list_cons hl4
    obtain rfl := list_nil hl5
    obtain ⟨q0, fq0, hqB0, hqC0⟩ := hAL _ (by simp only [List.mem_cons, List.not_mem_nil, or_false]; trivial)
    obtain rfl : v4 = _ := Option.some.inj fq0
    clear hl hl0 hl1 hl2 hl3 hl4 hl5
    have ha0 := HA0.out
    subst ha0
    clear HA0 hV hsz0 oe2 oe7 oe8 oe11 oe12
    simp only [putAll, Act.put, List.setIfInBounds_toArray, List.set_cons_zero, List.set_cons_succ, List.set_nil]
    have KX4 := Lib.hid (show Cs w4 q0 ((shaF (ofT a b h bs)).map bv).toArray 28 from hqC0)
    have zx4 := hqC0.lt
    have HP4 := Lib.hid (HP3.out.mod hm HPA.out)
    have HQ4 := Lib.hid (HQ3.out.mod hm HQA.out)
    have KM4 := Lib.hid (KM3.out.trans hm (fun k h1 h2 => by omega))
    have z4 := hm.size
    have KN4 := Lib.hid (KN3.out.mod hm (by omega))
    have KH4 := Lib.hid (KH3.out.mod hm (by omega))
    have KC4 := Lib.hid (KC3.out.mod hm (by omega))
    have KF4 := Lib.hid (KF3.out.mod hm (by omega))
    clear hG hm hAL hNE hqC0 fq0 HP3 HQ3 KM3 KN3 KH3 KC3 KF3 HPA HQA
    have HPA := Lib.hid (show Apart v' bs.length (fun j => w4.heap.size ≤ j) from fun h0 g hg h => by have := HP4.out.block_lt h0 g hg; omega)
    have HQA := Lib.hid (show Apart u3 qs.length (fun j => w4.heap.size ≤ j) from fun h0 g hg h => by have := HQ4.out.block_lt h0 g hg; omega)
    go_upto_region 5 with (fail)
    generalize ha0 : Act.mk _ _ = a0
    have oe3 : a0.eval (.tmp 3) = u3 := by rw [← ha0]; rfl
    have oe7 : a0.eval (.tmp 7) = .pointer (some ⟨w.heap.size, 0, none⟩) := by rw [← ha0]; rfl
    have oe8 : a0.eval (.tmp 8) = .pointer (some ⟨w.heap.size + 1, 0, none⟩) := by rw [← ha0]; rfl
    have oe11 : a0.eval (.tmp 11) = .pointer (some ⟨w.heap.size + 1 + 1, 0, none⟩) := by rw [← ha0]; rfl
    have oe12 : a0.eval (.tmp 12) = .pointer (some ⟨w.heap.size + 1 + 1 + 1, 0, none⟩) := by rw [← ha0]; rfl
    have hsz0 : a0.tmps.size = 67 := by rw [← ha0]; rfl
    have HA0 := Lib.hid ha0
    clear ha0
    refine wp_region_A 67 hsz0 (by kernel_rfl) (by kernel_rfl) [28, 29, 30, 16, 71] (by kernel_rfl) (by decide) (fun j => w4.heap.size ≤ j) (fun _ _ => False) (fun _ _ h => h.elim) Still (fun _ _ _ h => h) (fun _ _ _ hm h => hm.trans h (fun _ _ h => h.elim)) [gi (u3), gi (hv h), gi (.agg (opC 0 u3 h).toArray), ga, ga] ⟨gi_stable, gi_stable, gi_stable, ga_stable, ga_stable, trivial⟩ [] (by kernel_rfl) (by decide) (by kernel_rfl) (fun _ _ => True) (fun _ _ _ _ _ => trivial) trivial [⟨3, 4, 52, [.int .i64 0, .slice none 0 0, .int .u8 0, .int .u8 0, .int .u8 0, .int .u8 0, .int .u8 0, .int .u8 0, .int .u8 0, .int .u8 0, .int .u8 0, .int .u8 0, .int .u8 0, .int .u8 0, .int .u8 0, .int .u8 0, .int .u8 0, .int .u8 0, .int .u8 0, .int .u8 0, .int .u8 0, .int .u8 0, .int .u8 0, .int .u8 0, .int .u8 0, .int .u8 0, .int .u8 0, .int .u8 0, .int .u8 0, .int .u8 0, .int .u8 0, .int .u8 0, .int .u8 0, .int .u8 0], opC 0 u3 h⟩] (by kernel_rfl) (by intro r hr; simp only [List.mem_cons, List.not_mem_nil, or_false] at hr; rcases hr with rfl <;> exact ⟨rfl, rfl⟩) (fun _ _ h => h.elim) (fun _ h => h) stillA (fun _ _ _ _ _ _ => trivial) (AllEnd.get _ ⟨gi_end, gi_end, gi_end, ga_end, ga_end, trivial⟩) (by intro r hr; simp only [List.mem_cons, List.not_mem_nil, or_false] at hr; rcases hr with rfl <;> exact ⟨of_decide_eq_true (by kernel_rfl), of_decide_eq_true (by kernel_rfl)⟩) (by intro r hr; simp only [List.mem_cons, List.not_mem_nil, or_false] at hr; rcases hr with rfl <;> exact fun _ _ _ => ⟨trivial, trivial⟩) ⟨?_, ?_, ?_, ?_, ?_, trivial⟩ ?_
    · refine ⟨fun r hr e => ?_, fun r hr e => ?_, fun hno => ?_⟩
      · simp only [List.mem_cons, List.not_mem_nil, or_false] at hr
        rcases hr with rfl
        · simp at e
      · simp only [List.mem_cons, List.not_mem_nil, or_false] at hr
        rcases hr with rfl
        · simp at e
      · intro tr act w' hm hout hsz hd hG hk hub
        exact jg_run (by rfl) rfl (wanted_none rfl) (ex_move rfl ((hout 3 (by decide)).trans oe3)) (Mod.refl _ _) rfl
    · refine ⟨fun r hr e => ?_, fun r hr e => ?_, fun hno => ?_⟩
      · simp only [List.mem_cons, List.not_mem_nil, or_false] at hr
        rcases hr with rfl
        · simp at e
      · simp only [List.mem_cons, List.not_mem_nil, or_false] at hr
        rcases hr with rfl
        · simp at e
      · intro tr act w' hm hout hsz hd hG hk hub
        exact jg_run (by rfl) rfl (wanted_none rfl) (ex_loadA rfl Try.underlying28 rfl (off := 0) (cs := h.map bv) (by rw [List.length_map, HH.out.1]; exact size_hash) ((hout 8 (by decide)).trans oe8) (Cs.whole (KH4.out.mod hm (by omega)))) (Mod.refl _ _) rfl
    · refine ⟨fun r hr e => ?_, fun r hr e => ?_, fun hno => ?_⟩
      · simp only [List.mem_cons, List.not_mem_nil, or_false] at hr
        rcases hr with rfl
        · simp at e
      · simp only [List.mem_cons, List.not_mem_nil, or_false] at hr
        rcases hr with rfl
        · simp at e
      · intro tr act w' hm hout hsz hd hG hk hub
        have h0 := hd ⟨0, .data⟩ (by simp) rfl _ rfl
        have h1 := hd ⟨1, .data⟩ (by simp) rfl _ rfl
        exact jg_run (by rfl) rfl (wanted_none rfl) (ex_build rfl (z := [.int .i64 0, .slice none 0 0, .int .u8 0, .int .u8 0, .int .u8 0, .int .u8 0, .int .u8 0, .int .u8 0, .int .u8 0, .int .u8 0, .int .u8 0, .int .u8 0, .int .u8 0, .int .u8 0, .int .u8 0, .int .u8 0, .int .u8 0, .int .u8 0, .int .u8 0, .int .u8 0, .int .u8 0, .int .u8 0, .int .u8 0, .int .u8 0, .int .u8 0, .int .u8 0, .int .u8 0, .int .u8 0, .int .u8 0, .int .u8 0, .int .u8 0, .int .u8 0, .int .u8 0, .int .u8 0]) (places := [(0, 1), (1, 1), (2, 32)]) (by kernel_rfl) (parts := [(1, u3), (2, hv h)]) (by simp only [List.map_toArray, List.map_cons, List.map_nil, show act.eval (.tmp 28) = _ from h0, show act.eval (.tmp 29) = _ from h1]; try rfl) (r := opC 0 u3 h) (by exact laid_op1 HH.out.1 HVQ.out.1)) (Mod.refl _ _) rfl
    · refine ⟨fun r hr e => ?_, fun r hr e => ?_, fun hno => ?_⟩
      · simp only [List.mem_cons, List.not_mem_nil, or_false] at hr
        rcases hr with rfl
        · exact ⟨rfl, rfl, by kernel_rfl, (by simp [opC, HH.out.1]), (opC_one HVQ.out), (by rw [opC_len HH.out.1]; exact size_opening)⟩
      · simp only [List.mem_cons, List.not_mem_nil, or_false] at hr
        rcases hr with rfl
        · simp at e
      · exact absurd rfl (hno ⟨3, 4, 52, [.int .i64 0, .slice none 0 0, .int .u8 0, .int .u8 0, .int .u8 0, .int .u8 0, .int .u8 0, .int .u8 0, .int .u8 0, .int .u8 0, .int .u8 0, .int .u8 0, .int .u8 0, .int .u8 0, .int .u8 0, .int .u8 0, .int .u8 0, .int .u8 0, .int .u8 0, .int .u8 0, .int .u8 0, .int .u8 0, .int .u8 0, .int .u8 0, .int .u8 0, .int .u8 0, .int .u8 0, .int .u8 0, .int .u8 0, .int .u8 0, .int .u8 0, .int .u8 0, .int .u8 0, .int .u8 0], opC 0 u3 h⟩ (by simp)).1
    · refine ⟨fun r hr e => ?_, fun r hr e => ?_, fun hno => ?_⟩
      · simp only [List.mem_cons, List.not_mem_nil, or_false] at hr
        rcases hr with rfl
        · simp at e
      · simp only [List.mem_cons, List.not_mem_nil, or_false] at hr
        rcases hr with rfl
        · refine ⟨rfl, _, (.tmp 30), rfl, by decide, rfl, by kernel_rfl, by kernel_rfl, fun tr act w' hm hout hd hG => ?_⟩
          have h2 := hd ⟨2, .data⟩ (by simp) rfl _ rfl
          rw [show act.eval ((.tmp 30)) = _ from h2]
          rfl
      · exact absurd rfl (hno ⟨3, 4, 52, [.int .i64 0, .slice none 0 0, .int .u8 0, .int .u8 0, .int .u8 0, .int .u8 0, .int .u8 0, .int .u8 0, .int .u8 0, .int .u8 0, .int .u8 0, .int .u8 0, .int .u8 0, .int .u8 0, .int .u8 0, .int .u8 0, .int .u8 0, .int .u8 0, .int .u8 0, .int .u8 0, .int .u8 0, .int .u8 0, .int .u8 0, .int .u8 0, .int .u8 0, .int .u8 0, .int .u8 0, .int .u8 0, .int .u8 0, .int .u8 0, .int .u8 0, .int .u8 0, .int .u8 0, .int .u8 0], opC 0 u3 h⟩ (by simp)).2
    intro vs tr w5 hl htl hm hG hV hAL hNE
    obtain ⟨v0, vs0, rfl, hl0⟩ := list_cons hl
    obtain ⟨v1, vs1, rfl, hl1⟩ := list_cons hl0
    obtain ⟨v2, vs2, rfl, hl2⟩ := list_cons hl1
    obtain ⟨v3, vs3, rfl, hl3⟩ := list_cons hl2
    obtain ⟨v4, vs4, rfl, hl4⟩ := list_cons hl3
    obtain rfl := list_nil hl4
    obtain ⟨q1, fq1, hqB1, hqC1⟩ := hAL _ (by simp only [List.mem_cons, List.not_mem_nil, or_false]; trivial)
    obtain rfl : v3 = _ := Option.some.inj fq1
    clear hl hl0 hl1 hl2 hl3 hl4
    have ha0 := HA0.out
    subst ha0
    clear HA0 hV hsz0 oe3 oe7 oe8 oe11 oe12
    simp only [putAll, Act.put, List.setIfInBounds_toArray, List.set_cons_zero, List.set_cons_succ, List.set_nil]
    have KO5 := Lib.hid (show Cs w5 q1 (opC 0 u3 h).toArray 52 from hqC1)
    have KX5 := Lib.hid (KX4.out.mod hm (by omega))
    have HP5 := Lib.hid (HP4.out.mod hm HPA.out)
    have HQ5 := Lib.hid (HQ4.out.mod hm HQA.out)
    have KM5 := Lib.hid (KM4.out.trans hm (fun k h1 h2 => by omega))
    have KN5 := Lib.hid (KN4.out.mod hm (by omega))
    have KH5 := Lib.hid (KH4.out.mod hm (by omega))
    have KC5 := Lib.hid (KC4.out.mod hm (by omega))
    have KF5 := Lib.hid (KF4.out.mod hm (by omega))
    clear hG hm hAL hNE hqC1 fq1 HP4 HQ4 KM4 KN4 KH4 KC4 KF4 KX4 HPA HQA
    go_upto_region 6 with (fail)
    generalize ha0 : Act.mk _ _ = a0
    have oe2 : a0.eval (.tmp 2) = v' := by rw [← ha0]; rfl
    have oe7 : a0.eval (.tmp 7) = .pointer (some ⟨w.heap.size, 0, none⟩) := by rw [← ha0]; rfl
    have oe8 : a0.eval (.tmp 8) = .pointer (some ⟨w.heap.size + 1, 0, none⟩) := by rw [← ha0]; rfl
    have oe11 : a0.eval (.tmp 11) = .pointer (some ⟨w.heap.size + 1 + 1, 0, none⟩) := by rw [← ha0]; rfl
    have oe12 : a0.eval (.tmp 12) = .pointer (some ⟨w.heap.size + 1 + 1 + 1, 0, none⟩) := by rw [← ha0]; rfl
    have oe15 : a0.eval (.tmp 15) = .pointer (some ⟨q0, 0, none⟩) := by rw [← ha0]; rfl
    have oe16 : a0.eval (.tmp 16) = .pointer (some ⟨q1, 0, none⟩) := by rw [← ha0]; rfl
    have hsz0 : a0.tmps.size = 67 := by rw [← ha0]; rfl
    have HA0 := Lib.hid ha0
    clear ha0
    refine wp_region_G 67 hsz0 (by kernel_rfl) (by kernel_rfl) [31, 32, 33, 34, 35, 36, 37, 38, 39, 40, 41, 42, 43, 44, 45, 46, 47, 48, 49, 50, 51, 52, 53, 54, 55, 56, 57, 58, 59, 60, 61, 62, 63, 64, 65, 66, 14] (by kernel_rfl) (by decide) (fun _ => False) (fun _ _ => False) (fun _ _ h => h) Still (fun _ _ _ h => h) (fun _ _ _ hm h => hm.trans h (fun _ _ h => h.elim)) [gi (hv (shaF (ofT a b h bs))), gi (.agg #[.int .i64 a, .int .i64 b]), gi (hv h), gi (v'), gi (hv (shaF (ofT a b h bs))), gi (.bool true), gi (.bool true), gi (hv (shaF (ofT a b h bs))), gi (.agg #[.int .i64 a, .int .i64 b]), gi (.agg (opC 0 u3 h).toArray), gi (.bool (decide ((shaF (ofT a b h bs)) = shaF (ofT a b h qs)))), gi (hv (shaF (ofT a b h bs))), gi (.agg #[.int .i64 a, .int .i64 b]), gi (.agg (opC 0 u3 h).toArray), gi (.bool (decide ((shaF (ofT a b h bs)) = shaF (ofT a b h qs)))), gi (.bool true), gi (.bool true), gi (.bool true), gi (.agg #[.int .i64 f, .int .i64 k]), gi (c.val), gi (.bool (validF k c)), gi (.agg #[.int .i64 f, .int .i64 k]), gi (c.val), gi (.bool (validF k c)), gi (.bool true), gi (.bool true), gi (.bool true), gi (c.val), (fun t v w => RdB w v (txT c)), gi (c.val), (fun t v w => RdB w v (txT c)), gi (.bool true), gi (.bool true), gi (.bool true), gi (.bool true), gi (.bool true), gi (.bool true)] ⟨gi_stable, gi_stable, gi_stable, gi_stable, gi_stable, gi_stable, gi_stable, gi_stable, gi_stable, gi_stable, gi_stable, gi_stable, gi_stable, gi_stable, gi_stable, gi_stable, gi_stable, gi_stable, gi_stable, gi_stable, gi_stable, gi_stable, gi_stable, gi_stable, gi_stable, gi_stable, gi_stable, gi_stable, ⟨fun _ _ _ _ h hr => RdB.mod h hr (fun _ _ _ h => h), fun _ _ _ _ _ h hr => RdB.mod h hr (fun _ _ _ h => h)⟩, gi_stable, ⟨fun _ _ _ _ h hr => RdB.mod h hr (fun _ _ _ h => h), fun _ _ _ _ _ h hr => RdB.mod h hr (fun _ _ _ h => h)⟩, gi_stable, gi_stable, gi_stable, gi_stable, gi_stable, gi_stable, trivial⟩ [] (by kernel_rfl) (by decide) (by kernel_rfl) (fun _ _ => True) (fun _ _ _ _ _ => trivial) trivial ⟨?_, ?_, ?_, ?_, ?_, ?_, ?_, ?_, ?_, ?_, ?_, ?_, ?_, ?_, ?_, ?_, ?_, ?_, ?_, ?_, ?_, ?_, ?_, ?_, ?_, ?_, ?_, ?_, ?_, ?_, ?_, ?_, ?_, ?_, ?_, ?_, ?_, trivial⟩ ?_
    · intro tr act w' hm hout hsz hd hG hk hub
      exact jg_run (by rfl) rfl (wanted_none rfl) (ex_loadA rfl Try.underlying28 rfl (off := 0) (cs := (shaF (ofT a b h bs)).map bv) (by rw [List.length_map, shaF_len]; exact size_hash) ((hout 15 (by decide)).trans oe15) (Cs.whole (KX5.out.mod hm (fun h => h)))) (Mod.refl _ _) rfl
    · intro tr act w' hm hout hsz hd hG hk hub
      exact jg_run (by rfl) rfl (wanted_none rfl) (ex_loadA rfl Try.underlying26 rfl (off := 0) (cs := [.int .i64 a, .int .i64 b]) (by kernel_rfl) ((hout 7 (by decide)).trans oe7) (Cs.whole (KN5.out.mod hm (fun h => h)))) (Mod.refl _ _) rfl
    · intro tr act w' hm hout hsz hd hG hk hub
      exact jg_run (by rfl) rfl (wanted_none rfl) (ex_loadA rfl Try.underlying28 rfl (off := 0) (cs := h.map bv) (by rw [List.length_map, HH.out.1]; exact size_hash) ((hout 8 (by decide)).trans oe8) (Cs.whole (KH5.out.mod hm (fun h => h)))) (Mod.refl _ _) rfl
    · intro tr act w' hm hout hsz hd hG hk hub
      exact jg_run (by rfl) rfl (wanted_none rfl) (ex_move rfl ((hout 2 (by decide)).trans oe2)) (Mod.refl _ _) rfl
    · intro tr act w' hm hout hsz hd hG hk hub
      have h1 := hd ⟨1, .data⟩ (by simp) rfl _ rfl
      have h2 := hd ⟨2, .data⟩ (by simp) rfl _ rfl
      have h3 := hd ⟨3, .data⟩ (by simp) rfl _ rfl
      refine jg_call (args := #[.agg #[.int .i64 a, .int .i64 b], hv h, v']) (by rfl) rfl (wanted_none rfl) (by rw [ex_callF rfl Try.func25 (by kernel_rfl) (by kernel_rfl)]; exact congrArg (fun z => Result.ok (Next.enter _ z) _) (by simp only [List.map_toArray, List.map_cons, List.map_nil, show act.eval (.tmp 32) = _ from h1, show act.eval (.tmp 33) = _ from h2, show act.eval (.tmp 34) = _ from h3]; try rfl)) (RefOf_any a b h bs v' _ HA.out HB.out HH.out (HP5.out.mod hm (fun _ _ _ h => h)) HLB.out) ?_
      rintro e w2 ⟨rfl, hm2⟩
      exact ⟨_, rfl, hm2, rfl⟩
    · intro tr act w' hm hout hsz hd hG hk hub
      have h0 := hd ⟨0, .data⟩ (by simp) rfl _ rfl
      have h4 := hd ⟨4, .data⟩ (by simp) rfl _ rfl
      exact jg_run (by rfl) rfl (wanted_none rfl) (ex_bin rfl h0 h4 (hv_guard2 _ _ _ _ _ _) (hv_eql (shaF_len _) (shaF_len _) _)) (Mod.refl _ _) (congrArg Value.bool (decide_eq_true rfl))
    · intro tr act w' hm hout hsz hd hG hk hub
      have h5 := hd ⟨5, .data⟩ (by simp) rfl _ rfl
      exact jg_run (by rfl) rfl (wanted_none rfl) (ex_move rfl h5) (Mod.refl _ _) rfl
    · intro tr act w' hm hout hsz hd hG hk hub
      have h6 := hd ⟨6, .guard⟩ (by simp) rfl _ rfl
      exact jg_run (by rfl) rfl ((wanted_of rfl rfl (hsz 37 (by decide)) h6).trans rfl) (ex_loadA rfl Try.underlying28 rfl (off := 0) (cs := (shaF (ofT a b h bs)).map bv) (by rw [List.length_map, shaF_len]; exact size_hash) ((hout 15 (by decide)).trans oe15) (Cs.whole (KX5.out.mod hm (fun h => h)))) (Mod.refl _ _) rfl
    · intro tr act w' hm hout hsz hd hG hk hub
      have h6 := hd ⟨6, .guard⟩ (by simp) rfl _ rfl
      exact jg_run (by rfl) rfl ((wanted_of rfl rfl (hsz 37 (by decide)) h6).trans rfl) (ex_loadA rfl Try.underlying26 rfl (off := 0) (cs := [.int .i64 a, .int .i64 b]) (by kernel_rfl) ((hout 7 (by decide)).trans oe7) (Cs.whole (KN5.out.mod hm (fun h => h)))) (Mod.refl _ _) rfl
    · intro tr act w' hm hout hsz hd hG hk hub
      have h6 := hd ⟨6, .guard⟩ (by simp) rfl _ rfl
      exact jg_run (by rfl) rfl ((wanted_of rfl rfl (hsz 37 (by decide)) h6).trans rfl) (ex_loadA rfl Try.underlying52 rfl (off := 0) (cs := opC 0 u3 h) (by rw [opC_len HH.out.1]; exact size_opening) ((hout 16 (by decide)).trans oe16) (Cs.whole (KO5.out.mod hm (fun h => h)))) (Mod.refl _ _) rfl
    · intro tr act w' hm hout hsz hd hG hk hub
      have h6 := hd ⟨6, .guard⟩ (by simp) rfl _ rfl
      have h7 := hd ⟨7, .data⟩ (by simp) rfl _ rfl
      have h8 := hd ⟨8, .data⟩ (by simp) rfl _ rfl
      have h9 := hd ⟨9, .data⟩ (by simp) rfl _ rfl
      refine jg_call (args := #[hv (shaF (ofT a b h bs)), .agg #[.int .i64 a, .int .i64 b], .agg (opC 0 u3 h).toArray]) (by rfl) rfl ((wanted_of rfl rfl (hsz 37 (by decide)) h6).trans rfl) (by rw [ex_callF rfl Try.func26 (by kernel_rfl) (by kernel_rfl)]; exact congrArg (fun z => Result.ok (Next.enter _ z) _) (by simp only [List.map_toArray, List.map_cons, List.map_nil, show act.eval (.tmp 38) = _ from h7, show act.eval (.tmp 39) = _ from h8, show act.eval (.tmp 40) = _ from h9]; try rfl)) (Matches_any (shaF (ofT a b h bs)) a b 0 h qs u3 _ (shaF_len _) HA.out HB.out HH.out (HQ5.out.mod hm (fun _ _ _ h => h)) HLQ.out) ?_
      rintro e w2 ⟨rfl, hm2⟩
      exact ⟨_, rfl, hm2, rfl⟩
    · intro tr act w' hm hout hsz hd hG hk hub
      have h6 := hd ⟨6, .guard⟩ (by simp) rfl _ rfl
      exact jg_run (by rfl) rfl ((wanted_of rfl rfl (hsz 37 (by decide)) h6).trans rfl) (ex_loadA rfl Try.underlying28 rfl (off := 0) (cs := (shaF (ofT a b h bs)).map bv) (by rw [List.length_map, shaF_len]; exact size_hash) ((hout 15 (by decide)).trans oe15) (Cs.whole (KX5.out.mod hm (fun h => h)))) (Mod.refl _ _) rfl
    · intro tr act w' hm hout hsz hd hG hk hub
      have h6 := hd ⟨6, .guard⟩ (by simp) rfl _ rfl
      exact jg_run (by rfl) rfl ((wanted_of rfl rfl (hsz 37 (by decide)) h6).trans rfl) (ex_loadA rfl Try.underlying26 rfl (off := 0) (cs := [.int .i64 a, .int .i64 b]) (by kernel_rfl) ((hout 7 (by decide)).trans oe7) (Cs.whole (KN5.out.mod hm (fun h => h)))) (Mod.refl _ _) rfl
    · intro tr act w' hm hout hsz hd hG hk hub
      have h6 := hd ⟨6, .guard⟩ (by simp) rfl _ rfl
      exact jg_run (by rfl) rfl ((wanted_of rfl rfl (hsz 37 (by decide)) h6).trans rfl) (ex_loadA rfl Try.underlying52 rfl (off := 0) (cs := opC 0 u3 h) (by rw [opC_len HH.out.1]; exact size_opening) ((hout 16 (by decide)).trans oe16) (Cs.whole (KO5.out.mod hm (fun h => h)))) (Mod.refl _ _) rfl
    · intro tr act w' hm hout hsz hd hG hk hub
      have h6 := hd ⟨6, .guard⟩ (by simp) rfl _ rfl
      have h11 := hd ⟨11, .data⟩ (by simp) rfl _ rfl
      have h12 := hd ⟨12, .data⟩ (by simp) rfl _ rfl
      have h13 := hd ⟨13, .data⟩ (by simp) rfl _ rfl
      refine jg_call (args := #[hv (shaF (ofT a b h bs)), .agg #[.int .i64 a, .int .i64 b], .agg (opC 0 u3 h).toArray]) (by rfl) rfl ((wanted_of rfl rfl (hsz 37 (by decide)) h6).trans rfl) (by rw [ex_callF rfl Try.func27 (by kernel_rfl) (by kernel_rfl)]; exact congrArg (fun z => Result.ok (Next.enter _ z) _) (by simp only [List.map_toArray, List.map_cons, List.map_nil, show act.eval (.tmp 42) = _ from h11, show act.eval (.tmp 43) = _ from h12, show act.eval (.tmp 44) = _ from h13]; try rfl)) (RefMatches_any (shaF (ofT a b h bs)) a b 0 h qs u3 _ (shaF_len _) HA.out HB.out HH.out (HQ5.out.mod hm (fun _ _ _ h => h)) HLQ.out) ?_
      rintro e w2 ⟨rfl, hm2⟩
      exact ⟨_, rfl, hm2, rfl⟩
    · intro tr act w' hm hout hsz hd hG hk hub
      have h6 := hd ⟨6, .guard⟩ (by simp) rfl _ rfl
      have h10 := hd ⟨10, .data⟩ (by simp) rfl _ rfl
      have h14 := hd ⟨14, .data⟩ (by simp) rfl _ rfl
      exact jg_run (by rfl) rfl ((wanted_of rfl rfl (hsz 37 (by decide)) h6).trans rfl) (ex_bin rfl h10 h14 (guard_bools _ _ _ _ _ _) (run_eql_bools _ _ _ Try.underlying4)) (Mod.refl _ _) (congrArg Value.bool (beq_self_eq_true _))
    · intro tr act w' hm hout hsz hd hG hk hub
      have h6 := hd ⟨6, .data⟩ (by simp) rfl _ rfl
      have h15 := hd ⟨15, .data⟩ (by simp) rfl _ rfl
      exact jg_run (by rfl) rfl (wanted_none rfl) (ex_pick rfl h6 h15 rfl) (Mod.refl _ _) rfl
    · intro tr act w' hm hout hsz hd hG hk hub
      have h16 := hd ⟨16, .data⟩ (by simp) rfl _ rfl
      exact jg_run (by rfl) rfl (wanted_none rfl) (ex_move rfl h16) (Mod.refl _ _) rfl
    · intro tr act w' hm hout hsz hd hG hk hub
      have h17 := hd ⟨17, .guard⟩ (by simp) rfl _ rfl
      exact jg_run (by rfl) rfl ((wanted_of rfl rfl (hsz 48 (by decide)) h17).trans rfl) (ex_loadA rfl Try.underlying24 rfl (off := 0) (cs := [.int .i64 f, .int .i64 k]) (by kernel_rfl) ((hout 12 (by decide)).trans oe12) (Cs.whole (KF5.out.mod hm (fun h => h)))) (Mod.refl _ _) rfl
    · intro tr act w' hm hout hsz hd hG hk hub
      have h17 := hd ⟨17, .guard⟩ (by simp) rfl _ rfl
      exact jg_run (by rfl) rfl ((wanted_of rfl rfl (hsz 48 (by decide)) h17).trans rfl) (ex_loadA rfl Try.underlying32 rfl (off := 0) (cs := Cm.cells c) (by rw [Cm.len HC.out.2.1]; exact size_commit) ((hout 11 (by decide)).trans oe11) (Cs.whole (KC5.out.mod hm (fun h => h)))) (Mod.refl _ _) rfl
    · intro tr act w' hm hout hsz hd hG hk hub
      have h17 := hd ⟨17, .guard⟩ (by simp) rfl _ rfl
      have h18 := hd ⟨18, .data⟩ (by simp) rfl _ rfl
      have h19 := hd ⟨19, .data⟩ (by simp) rfl _ rfl
      refine jg_call (args := #[.agg #[.int .i64 f, .int .i64 k], c.val]) (by rfl) rfl ((wanted_of rfl rfl (hsz 48 (by decide)) h17).trans rfl) (by rw [ex_callF rfl Try.func15 (by kernel_rfl) (by kernel_rfl)]; exact congrArg (fun z => Result.ok (Next.enter _ z) _) (by simp only [List.map_toArray, List.map_cons, List.map_nil, show act.eval (.tmp 49) = _ from h18, show act.eval (.tmp 50) = _ from h19]; try rfl)) (Valid_any f k c HC.out _) ?_
      rintro e w2 ⟨rfl, hm2⟩
      exact ⟨_, rfl, hm2, rfl⟩
    · intro tr act w' hm hout hsz hd hG hk hub
      have h17 := hd ⟨17, .guard⟩ (by simp) rfl _ rfl
      exact jg_run (by rfl) rfl ((wanted_of rfl rfl (hsz 48 (by decide)) h17).trans rfl) (ex_loadA rfl Try.underlying24 rfl (off := 0) (cs := [.int .i64 f, .int .i64 k]) (by kernel_rfl) ((hout 12 (by decide)).trans oe12) (Cs.whole (KF5.out.mod hm (fun h => h)))) (Mod.refl _ _) rfl
    · intro tr act w' hm hout hsz hd hG hk hub
      have h17 := hd ⟨17, .guard⟩ (by simp) rfl _ rfl
      exact jg_run (by rfl) rfl ((wanted_of rfl rfl (hsz 48 (by decide)) h17).trans rfl) (ex_loadA rfl Try.underlying32 rfl (off := 0) (cs := Cm.cells c) (by rw [Cm.len HC.out.2.1]; exact size_commit) ((hout 11 (by decide)).trans oe11) (Cs.whole (KC5.out.mod hm (fun h => h)))) (Mod.refl _ _) rfl
    · intro tr act w' hm hout hsz hd hG hk hub
      have h17 := hd ⟨17, .guard⟩ (by simp) rfl _ rfl
      have h21 := hd ⟨21, .data⟩ (by simp) rfl _ rfl
      have h22 := hd ⟨22, .data⟩ (by simp) rfl _ rfl
      refine jg_call (args := #[.agg #[.int .i64 f, .int .i64 k], c.val]) (by rfl) rfl ((wanted_of rfl rfl (hsz 48 (by decide)) h17).trans rfl) (by rw [ex_callF rfl Try.func28 (by kernel_rfl) (by kernel_rfl)]; exact congrArg (fun z => Result.ok (Next.enter _ z) _) (by simp only [List.map_toArray, List.map_cons, List.map_nil, show act.eval (.tmp 52) = _ from h21, show act.eval (.tmp 53) = _ from h22]; try rfl)) (RefValid_any f k c HC.out _) ?_
      rintro e w2 ⟨rfl, hm2⟩
      exact ⟨_, rfl, hm2, rfl⟩
    · intro tr act w' hm hout hsz hd hG hk hub
      have h17 := hd ⟨17, .guard⟩ (by simp) rfl _ rfl
      have h20 := hd ⟨20, .data⟩ (by simp) rfl _ rfl
      have h23 := hd ⟨23, .data⟩ (by simp) rfl _ rfl
      exact jg_run (by rfl) rfl ((wanted_of rfl rfl (hsz 48 (by decide)) h17).trans rfl) (ex_bin rfl h20 h23 (guard_bools _ _ _ _ _ _) (run_eql_bools _ _ _ Try.underlying4)) (Mod.refl _ _) (congrArg Value.bool (beq_self_eq_true _))
    · intro tr act w' hm hout hsz hd hG hk hub
      have h17 := hd ⟨17, .data⟩ (by simp) rfl _ rfl
      have h24 := hd ⟨24, .data⟩ (by simp) rfl _ rfl
      exact jg_run (by rfl) rfl (wanted_none rfl) (ex_pick rfl h17 h24 rfl) (Mod.refl _ _) rfl
    · intro tr act w' hm hout hsz hd hG hk hub
      have h25 := hd ⟨25, .data⟩ (by simp) rfl _ rfl
      exact jg_run (by rfl) rfl (wanted_none rfl) (ex_move rfl h25) (Mod.refl _ _) rfl
    · intro tr act w' hm hout hsz hd hG hk hub
      have h26 := hd ⟨26, .guard⟩ (by simp) rfl _ rfl
      exact jg_run (by rfl) rfl ((wanted_of rfl rfl (hsz 57 (by decide)) h26).trans rfl) (ex_loadA rfl Try.underlying32 rfl (off := 0) (cs := Cm.cells c) (by rw [Cm.len HC.out.2.1]; exact size_commit) ((hout 11 (by decide)).trans oe11) (Cs.whole (KC5.out.mod hm (fun h => h)))) (Mod.refl _ _) rfl
    · intro tr act w' hm hout hsz hd hG hk hub
      have h26 := hd ⟨26, .guard⟩ (by simp) rfl _ rfl
      have h27 := hd ⟨27, .data⟩ (by simp) rfl _ rfl
      refine jg_call (args := #[c.val]) (by rfl) rfl ((wanted_of rfl rfl (hsz 57 (by decide)) h26).trans rfl) (by rw [ex_callF rfl Try.func30 (by kernel_rfl) (by kernel_rfl)]; exact congrArg (fun z => Result.ok (Next.enter _ z) _) (by simp only [List.map_toArray, List.map_cons, List.map_nil, show act.eval (.tmp 58) = _ from h27]; try rfl)) (Text_any c _ HC.out) ?_
      rintro e w2 ⟨v9, rfl, ho, hm2⟩
      exact ⟨v9, rfl, hm2, ho.rd.1⟩
    · intro tr act w' hm hout hsz hd hG hk hub
      have h26 := hd ⟨26, .guard⟩ (by simp) rfl _ rfl
      exact jg_run (by rfl) rfl ((wanted_of rfl rfl (hsz 57 (by decide)) h26).trans rfl) (ex_loadA rfl Try.underlying32 rfl (off := 0) (cs := Cm.cells c) (by rw [Cm.len HC.out.2.1]; exact size_commit) ((hout 11 (by decide)).trans oe11) (Cs.whole (KC5.out.mod hm (fun h => h)))) (Mod.refl _ _) rfl
    · intro tr act w' hm hout hsz hd hG hk hub
      have h26 := hd ⟨26, .guard⟩ (by simp) rfl _ rfl
      have h29 := hd ⟨29, .data⟩ (by simp) rfl _ rfl
      refine jg_call (args := #[c.val]) (by rfl) rfl ((wanted_of rfl rfl (hsz 57 (by decide)) h26).trans rfl) (by rw [ex_callF rfl Try.func31 (by kernel_rfl) (by kernel_rfl)]; exact congrArg (fun z => Result.ok (Next.enter _ z) _) (by simp only [List.map_toArray, List.map_cons, List.map_nil, show act.eval (.tmp 60) = _ from h29]; try rfl)) (RefText_any c _ HC.out) ?_
      rintro e w2 ⟨v9, rfl, ho, hm2⟩
      exact ⟨v9, rfl, hm2, ho.1⟩
    · intro tr act w' hm hout hsz hd hG hk hub
      have h26 := hd ⟨26, .guard⟩ (by simp) rfl _ rfl
      have h28 := hd ⟨28, .data⟩ (by simp) rfl _ rfl
      have h30 := hd ⟨30, .data⟩ (by simp) rfl _ rfl
      refine jg_call (args := #[act.eval (.tmp 59), act.eval (.tmp 61)]) (by rfl) rfl ((wanted_of rfl rfl (hsz 57 (by decide)) h26).trans rfl) (by rw [ex_callF rfl Try.func29 (by kernel_rfl) (by kernel_rfl)]; exact congrArg (fun z => Result.ok (Next.enter _ z) _) (by simp only [List.map_toArray, List.map_cons, List.map_nil]; try rfl)) (Same_R (R := fun _ => True) (R' := fun _ => True) (N := (txT c).length) (N' := (txT c).length) ⟨h28, (fun _ _ _ => trivial), Nat.le_refl _⟩ ⟨h30, (fun _ _ _ => trivial), Nat.le_refl _⟩) ?_
      rintro e w2 ⟨rfl, hm2⟩
      exact ⟨_, rfl, hm2, congrArg Value.bool (decide_eq_true rfl)⟩
    · intro tr act w' hm hout hsz hd hG hk hub
      have h26 := hd ⟨26, .data⟩ (by simp) rfl _ rfl
      have h31 := hd ⟨31, .data⟩ (by simp) rfl _ rfl
      exact jg_run (by rfl) rfl (wanted_none rfl) (ex_pick rfl h26 h31 rfl) (Mod.refl _ _) rfl
    · intro tr act w' hm hout hsz hd hG hk hub
      have h32 := hd ⟨32, .data⟩ (by simp) rfl _ rfl
      exact jg_run (by rfl) rfl (wanted_none rfl) (ex_move rfl h32) (Mod.refl _ _) rfl
    · intro tr act w' hm hout hsz hd hG hk hub
      have h33 := hd ⟨33, .guard⟩ (by simp) rfl _ rfl
      refine jg_call (args := #[]) (by rfl) rfl ((wanted_of rfl rfl (hsz 64 (by decide)) h33).trans rfl) (by rw [ex_callF rfl Try.func16 (by kernel_rfl) (by kernel_rfl)]; simp) (wakes04 _) ?_
      rintro e w2 ⟨rfl, hm2⟩
      exact ⟨_, rfl, hm2, rfl⟩
    · intro tr act w' hm hout hsz hd hG hk hub
      have h33 := hd ⟨33, .data⟩ (by simp) rfl _ rfl
      have h34 := hd ⟨34, .data⟩ (by simp) rfl _ rfl
      exact jg_run (by rfl) rfl (wanted_none rfl) (ex_pick rfl h33 h34 rfl) (Mod.refl _ _) rfl
    · intro tr act w' hm hout hsz hd hG hk hub
      have h35 := hd ⟨35, .data⟩ (by simp) rfl _ rfl
      exact jg_run (by rfl) rfl (wanted_none rfl) (ex_assign rfl h35) (Mod.refl _ _) rfl
    intro vs tr w6 hl htl hm hG hV
    obtain ⟨v0, vs0, rfl, hl0⟩ := list_cons hl
    obtain ⟨v1, vs1, rfl, hl1⟩ := list_cons hl0
    obtain ⟨v2, vs2, rfl, hl2⟩ := list_cons hl1
    obtain ⟨v3, vs3, rfl, hl3⟩ := list_cons hl2
    obtain ⟨v4, vs4, rfl, hl4⟩ := list_cons hl3
    obtain ⟨v5, vs5, rfl, hl5⟩ := list_cons hl4
    obtain ⟨v6, vs6, rfl, hl6⟩ := list_cons hl5
    obtain ⟨v7, vs7, rfl, hl7⟩ := list_cons hl6
    obtain ⟨v8, vs8, rfl, hl8⟩ := list_cons hl7
    obtain ⟨v9, vs9, rfl, hl9⟩ := list_cons hl8
    obtain ⟨v10, vs10, rfl, hl10⟩ := list_cons hl9
    obtain ⟨v11, vs11, rfl, hl11⟩ := list_cons hl10
    obtain ⟨v12, vs12, rfl, hl12⟩ := list_cons hl11
    obtain ⟨v13, vs13, rfl, hl13⟩ := list_cons hl12
    obtain ⟨v14, vs14, rfl, hl14⟩ := list_cons hl13
    obtain ⟨v15, vs15, rfl, hl15⟩ := list_cons hl14
    obtain ⟨v16, vs16, rfl, hl16⟩ := list_cons hl15
    obtain ⟨v17, vs17, rfl, hl17⟩ := list_cons hl16
    obtain ⟨v18, vs18, rfl, hl18⟩ := list_cons hl17
    obtain ⟨v19, vs19, rfl, hl19⟩ := list_cons hl18
    obtain ⟨v20, vs20, rfl, hl20⟩ := list_cons hl19
    obtain ⟨v21, vs21, rfl, hl21⟩ := list_cons hl20
    obtain ⟨v22, vs22, rfl, hl22⟩ := list_cons hl21
    obtain ⟨v23, vs23, rfl, hl23⟩ := list_cons hl22
    obtain ⟨v24, vs24, rfl, hl24⟩ := list_cons hl23
    obtain ⟨v25, vs25, rfl, hl25⟩ := list_cons hl24
    obtain ⟨v26, vs26, rfl, hl26⟩ := list_cons hl25
    obtain ⟨v27, vs27, rfl, hl27⟩ := list_cons hl26
    obtain ⟨v28, vs28, rfl, hl28⟩ := list_cons hl27
    obtain ⟨v29, vs29, rfl, hl29⟩ := list_cons hl28
    obtain ⟨v30, vs30, rfl, hl30⟩ := list_cons hl29
    obtain ⟨v31, vs31, rfl, hl31⟩ := list_cons hl30
    obtain ⟨v32, vs32, rfl, hl32⟩ := list_cons hl31
    obtain ⟨v33, vs33, rfl, hl33⟩ := list_cons hl32
    obtain ⟨v34, vs34, rfl, hl34⟩ := list_cons hl33
    obtain ⟨v35, vs35, rfl, hl35⟩ := list_cons hl34
    obtain ⟨v36, vs36, rfl, hl36⟩ := list_cons hl35
    obtain rfl := list_nil hl36
    clear hl hl0 hl1 hl2 hl3 hl4 hl5 hl6 hl7 hl8 hl9 hl10 hl11 hl12 hl13 hl14 hl15 hl16 hl17 hl18 hl19 hl20 hl21 hl22 hl23 hl24 hl25 hl26 hl27 hl28 hl29 hl30 hl31 hl32 hl33 hl34 hl35 hl36
    obtain rfl : v36 = .bool true := hV 36 _ rfl
    have ha0 := HA0.out
    subst ha0
    clear HA0 hV hsz0 oe2 oe7 oe8 oe11 oe12 oe15 oe16
    simp only [putAll, Act.put, List.setIfInBounds_toArray, List.set_cons_zero, List.set_cons_succ]
    have KM6 := Lib.hid (KM5.out.trans hm (fun _ _ h => h))
    clear hm hG
    go_wp2
    go_ret
    exact ⟨rfl, KM6.out⟩
end Go.Proofs.Ytgnmdnmmemdemaa
