/- Texts that are built one behind the other: XSp4, XAr, XSa0, XSk0. No condition. -/
import Derived.Test.YtbifincepglilaaSpK5
import Derived.Maps.RangeRun
set_option maxRecDepth 100000
set_option linter.unusedVariables false
/- stamp.Stamper.Of. -/
namespace Go.Proofs.Ytbifincepglilaa
open Go Go.RowKit Go.Gv

theorem results_cell_2tmp {P : Program} {fn : Func} {p u v : Tmp} {ty : TypeId} (h : fn.results = #[.cell p ty, .tmp u, .tmp v]) (tmps : Array Value) (w : World) (g : Nat) (cs : List Value) {d : TypeDesc}
    (hp : tmps.getD p undef = .pointer (some ⟨g, 0, none⟩)) (hc : ∀ j u, cs[j]? = some u → w.cell? ⟨g, j, none⟩ = some u) (hu : P.underlying ty = some d) (hd : aggDesc d = true) (hi : (P.info? ty).map (·.size) = some cs.length) :
    (results fn tmps).run P w = .ok (.tuple #[.agg cs.toArray, tmps.getD u undef, tmps.getD v undef]) w := by
  have hp' : tmps[p]?.getD undef = .pointer (some ⟨g, 0, none⟩) := by simpa using hp
  simp [results, h, hp', asAddr, run_loadA w ty d hu hd ⟨g, 0, none⟩ cs hi (fun j u hu => by rw [add_mk, Nat.zero_add]; exact hc j u hu)]
set_option maxHeartbeats 4000000 in
theorem Of_Q {R : Nat → Prop} {w : World} {p : Nat} {f k rep : Int} {s : SS} {n : Int × Int} {y : St} {bb : Bool} (h : SpR R w p f k rep s) (hB : ∀ k, R k → k < w.heap.size) (hnk : NmK n) (hlk : lookV s.m n = .tuple #[y.val, .bool bb]) (hyo : y.OK) :
    Calls Try.prog 21 #[.pointer (some ⟨p, 0, none⟩), .agg #[.int .i64 n.1, .int .i64 n.2]] w fun e w' => e = .returned (.tuple #[hv y.h, .int .u64 (y.tm : Nat), .bool bb]) ∧ Mod (fun _ => False) w w' := by
  obtain ⟨b, hc, hp, hb, hmp, hne, hnw, hfl, hla, hok⟩ := h
  have hpl := hc.lt
  have hbl := hmp.lt
  have hU : U64 = 18446744073709551616 := rfl
  have HC := hid (show Cs w p #[.int .i64 f, .int .i64 k, .int .i64 rep, .int .u64 (s.now : Nat), .int .u64 (s.floor : Nat), .int .u64 (s.last : Nat), .map (some b)] 91 from hc)
  have HMP := Lib.hid hmp
  have HBR := Lib.hid hB
  have HPR := Lib.hid hp
  have HRB := Lib.hid hb
  have HOKS := Lib.hid hok
  clear hc hmp hp hb hok hB
  have HLK := Lib.hid hlk
  have HYO := Lib.hid hyo
  have HNK := Lib.hid hnk
  clear hlk hyo hnk
  change Calls _ _ #[.pointer (some ⟨p, 0, none⟩), .agg #[.int .i64 n.1, .int .i64 n.2]] _ _
  go_enter Try.func21, Try.ntmps21
  go_upto_region 1 with (fail)
  obtain ⟨w1, hw1⟩ : ∃ zz, zz = ((w.alloc (.cells #[.int .i64 n.1, .int .i64 n.2] 30)).alloc (.cells #[.int .u8 0, .int .u8 0, .int .u8 0, .int .u8 0, .int .u8 0, .int .u8 0, .int .u8 0, .int .u8 0, .int .u8 0, .int .u8 0, .int .u8 0, .int .u8 0, .int .u8 0, .int .u8 0, .int .u8 0, .int .u8 0, .int .u8 0, .int .u8 0, .int .u8 0, .int .u8 0, .int .u8 0, .int .u8 0, .int .u8 0, .int .u8 0, .int .u8 0, .int .u8 0, .int .u8 0, .int .u8 0, .int .u8 0, .int .u8 0, .int .u8 0, .int .u8 0] 32)) := ⟨_, rfl⟩
  change Code.wp _ _ _ _ ((w.alloc (.cells #[.int .i64 n.1, .int .i64 n.2] 30)).alloc (.cells #[.int .u8 0, .int .u8 0, .int .u8 0, .int .u8 0, .int .u8 0, .int .u8 0, .int .u8 0, .int .u8 0, .int .u8 0, .int .u8 0, .int .u8 0, .int .u8 0, .int .u8 0, .int .u8 0, .int .u8 0, .int .u8 0, .int .u8 0, .int .u8 0, .int .u8 0, .int .u8 0, .int .u8 0, .int .u8 0, .int .u8 0, .int .u8 0, .int .u8 0, .int .u8 0, .int .u8 0, .int .u8 0, .int .u8 0, .int .u8 0, .int .u8 0, .int .u8 0] 32))
  rw [← hw1]
  have HB3 := hid (show Cs w1 (w.heap.size) #[.int .i64 n.1, .int .i64 n.2] 30 by rw [hw1]; exact (Cs.new _ _ _).alloc _)
  have HB4 := hid (show Cs w1 (w.heap.size + 1) #[.int .u8 0, .int .u8 0, .int .u8 0, .int .u8 0, .int .u8 0, .int .u8 0, .int .u8 0, .int .u8 0, .int .u8 0, .int .u8 0, .int .u8 0, .int .u8 0, .int .u8 0, .int .u8 0, .int .u8 0, .int .u8 0, .int .u8 0, .int .u8 0, .int .u8 0, .int .u8 0, .int .u8 0, .int .u8 0, .int .u8 0, .int .u8 0, .int .u8 0, .int .u8 0, .int .u8 0, .int .u8 0, .int .u8 0, .int .u8 0, .int .u8 0, .int .u8 0] 32 by rw [hw1]; exact Cs_newN _ _ _ (by simp))
  have hm : Mod (fun _ => False) w w1 := by rw [hw1]; exact ((Mod.refl _ _).alloc _).alloc _
  have HM0 := hid (show Mod (fun _ => False) w w1 from hm.mono (fun _ _ h => h.elim))
  have hs1 : w1.heap.size = w.heap.size + 2 := by rw [hw1]; simp
  have Hx1 := hid (HC.out.mod hm (fun h => h))
  clear HC
  have Hx2 := hid (HMP.out.mod hm (fun h => h))
  clear HMP
  clear hw1 hm
  go_upto_region 1 with (fail)
  generalize ha0 : Act.mk _ _ = a0
  have oe0 : a0.eval (.tmp 0) = .pointer (some ⟨p, 0, none⟩) := by rw [← ha0]; rfl
  have oe3 : a0.eval (.tmp 3) = .pointer (some ⟨w.heap.size, 0, none⟩) := by rw [← ha0]; rfl
  have hsz0 : a0.tmps.size = 23 := by rw [← ha0]; rfl
  have HA0 := hid ha0
  clear ha0
  refine wp_region_Q 23 hsz0 (by kernel_rfl) (by kernel_rfl) [10, 11, 12, 13, 14, 15, 9, 16, 17, 7, 33, 8] (by kernel_rfl) (by decide) (fun _ => False) (fun _ _ => False) (fun _ _ h => h) [qi (.pointer (some ⟨p, 0, none⟩)), qi (.pointer (some ⟨p, 0, none⟩)), qi (.pointer (some ⟨p, 6, none⟩)), qi (.map (some b)), qi (.agg #[.int .i64 n.1, .int .i64 n.2]), qi (.tuple #[y.val, .bool bb]), qi (.tuple #[y.val, .bool bb]), qi (y.val), qi (.bool bb), qa, qa, qi (.bool bb)] ⟨qi_stable, qi_stable, qi_stable, qi_stable, qi_stable, qi_stable, qi_stable, qi_stable, qi_stable, qa_stable, qa_stable, qi_stable, trivial⟩ [] (by kernel_rfl) (by decide) (by kernel_rfl) [⟨9, 10, 47, [.int .i64 0, .int .i64 0, .int .i64 0, .int .u8 0, .int .u8 0, .int .u8 0, .int .u8 0, .int .u8 0, .int .u8 0, .int .u8 0, .int .u8 0, .int .u8 0, .int .u8 0, .int .u8 0, .int .u8 0, .int .u8 0, .int .u8 0, .int .u8 0, .int .u8 0, .int .u8 0, .int .u8 0, .int .u8 0, .int .u8 0, .int .u8 0, .int .u8 0, .int .u8 0, .int .u8 0, .int .u8 0, .int .u8 0, .int .u8 0, .int .u8 0, .int .u8 0, .int .u8 0, .int .u8 0, .int .u8 0, .int .u64 0, .int .i64 0, .int .i64 0], 0, (fun t => y.cells)⟩] (by kernel_rfl) (by intro r hr; simp only [List.mem_cons, List.not_mem_nil, or_false] at hr; rcases hr with rfl <;> exact ⟨by kernel_rfl, by kernel_rfl⟩) (by intro r hr; simp only [List.mem_cons, List.not_mem_nil, or_false] at hr; rcases hr with rfl <;> exact ⟨of_decide_eq_true (by kernel_rfl), of_decide_eq_true (by kernel_rfl)⟩) (by intro r hr; simp only [List.mem_cons, List.not_mem_nil, or_false] at hr; rcases hr with rfl <;> exact fun _ _ _ _ => ⟨trivial, trivial⟩) ⟨?_, ?_, ?_, ?_, ?_, ?_, ?_, ?_, ?_, ?_, ?_, ?_, trivial⟩ ?_
  · exact stq (fun E => ex_move rfl (E.v oe0))
  · exact stq (fun E => ex_nil rfl (E.d 0))
  · exact stq (fun E => ex_field rfl Try.underlying91 rfl (by kernel_rfl) (E.d 1))
  · exact stq (fun E => ex_load1 rfl Try.underlying57 rfl (E.d 2) (Cs.lit1 (Hx1.out.mod E.m.old (by intro h2; omega)) rfl))
  · exact stq (fun E => ex_loadA rfl Try.underlying30 rfl (off := 0) (cs := [.int .i64 n.1, .int .i64 n.2]) (by kernel_rfl) (E.v oe3) (Cs.litA (HB3.out.mod E.m.old (by intro h2; omega)) rfl))
  · exact stq (fun E => ex_lookS (k := n) rfl (E.d 3) (E.d 4) HNK.out (Hx2.out.mod E.m.old (by intro h2; omega)) HLK.out)
  · exact stq (fun E => ex_move rfl (E.d 5))
  · exact stq (fun E => ex_extract rfl (E.d 6) rfl)
  · exact stq (fun E => ex_extract rfl (E.d 6) rfl)
  · exact stepq_make rfl rfl ⟨rfl, rfl, by kernel_rfl, by kernel_rfl⟩
  · refine stepq_write rfl rfl rfl ⟨rfl, 7, (.tmp 16), rfl, by decide, rfl, by kernel_rfl, fun Z tr act w' hm hout hsz hd hpre => ?_⟩
    have h7 := hd ⟨7, .data⟩ (by simp) rfl _ rfl
    exact ⟨Nat.zero_le _, (by rw [show act.eval ((.tmp 16)) = _ from h7]; rfl), (by rw [St.len HYO.out]; rfl), (St.one y)⟩
  · exact stq (fun E => ex_assign rfl (E.d 8))
  intro u1_0 hr
  have zu1_0 := hr.size
  have Cx3 := hid (hr.new (S := (fun _ => False)))
  clear hr
  refine QChain.nil fun vs hl hzz hrows hne => ?_
  obtain ⟨Z, hYZ, hZb, hV⟩ := hzz
  obtain ⟨b7, g9, hBb7, hYb7, hCb7⟩ := hrows _ (by simp only [List.mem_cons, List.not_mem_nil, or_false]; trivial)
  have f9 : gw vs 9 = _ := getv g9
  (try dsimp only at hBb7 hYb7); (try simp only [false_or] at hBb7 hYb7)
  have zqb7 := hCb7.lt
  have Hx4 := hid (show Cs u1_0 b7 (y.cells : List Value).toArray 47 from hCb7)
  have f0 := fvi hV hl 0
  have f6 := fvi hV hl 6
  have f11 := fvi hV hl 11
  rw [show vs = [gw vs 0, gw vs 1, gw vs 2, gw vs 3, gw vs 4, gw vs 5, gw vs 6, gw vs 7, gw vs 8, gw vs 9, gw vs 10, gw vs 11] from (gw_eta hl).trans rfl]
  have ha0 := HA0.out
  subst ha0
  clear HA0 hV hYZ hZb hsz0 hrows hne oe0 oe3 hCb7 g9
  simp only [putAll, Act.put, List.setIfInBounds_toArray, List.set_cons_zero, List.set_cons_succ, List.set_nil, f9, f0, f6, f11]
  clear hl f9 f0 f6 f11
  have hyl : (y.h.map bv).length = 32 := by rw [List.length_map]; exact HYO.out.h.1
  go_upto_region 2 with (fail)
  generalize ha0 : Act.mk _ _ = a0
  have oe4 : a0.eval (.tmp 4) = .pointer (some ⟨w.heap.size + 1, 0, none⟩) := by rw [← ha0]; rfl
  have oe7 : a0.eval (.tmp 7) = .pointer (some ⟨b7, 0, none⟩) := by rw [← ha0]; rfl
  have oe8 : a0.eval (.tmp 8) = .bool bb := by rw [← ha0]; rfl
  have hsz0 : a0.tmps.size = 23 := by rw [← ha0]; rfl
  have HA0 := hid ha0
  clear ha0
  refine wp_region_Q1 23 hsz0 [18, 19, 20, 21, 22, 28, 5, 6] (fun k => (k = w.heap.size + 1)) (fun k j => (k = 0 ∧ ((j = w.heap.size + 1)))) (fun _ _ h => h.2) [qi (.pointer (some ⟨b7, 3, none⟩)), qi (hv y.h), qi (.pointer (some ⟨b7, 35, none⟩)), qi (.int .u64 (y.tm : Nat)), qi (.bool bb), qv 0, qi (.int .u64 (y.tm : Nat)), qi (.bool bb)] ⟨qi_stable, qi_stable, qi_stable, qi_stable, qi_stable, qv_stable, qi_stable, qi_stable, trivial⟩ [5] ⟨?_, ?_, ?_, ?_, ?_, ?_, ?_, ?_, trivial⟩ ?_
  · exact stq (fun E => ex_field rfl Try.underlying47 rfl (by kernel_rfl) (E.v oe7))
  · exact stq (fun E => ex_loadA rfl Try.underlying32 rfl (off := 3) (cs := y.h.map bv) (by rw [List.length_map, HYO.out.h.1]; exact size_hash) (E.d 0) (Cs.midA (Hx4.out.mod E.m (by intro h2; omega)) rfl))
  · exact stq (fun E => ex_field rfl Try.underlying47 rfl (by kernel_rfl) (E.v oe7))
  · exact stq (fun E => ex_load1 rfl Try.underlying45 rfl (E.d 2) (Cs.post1 (m := 32) (k := 0) (Hx4.out.mod E.m (by intro h2; omega)) (by rw [List.length_map]; exact HYO.out.h.1) rfl rfl))
  · exact stq (fun E => ex_move rfl (E.v oe8))
  · exact stepq_chain rfl
  · exact stq (fun E => ex_assign rfl (E.d 3))
  · exact stq (fun E => ex_assign rfl (E.d 4))
  intro u2_0 hr
  have zu2_0 := hr.size
  have Cx5 := hid (hr.new (S := (fun k => (k = w.heap.size + 1))))
  have Hx6 := hid ((HB4.out.mod Cx3.out (fun h => h)).mod hr (by intro h2; omega))
  clear HB4
  clear hr
  refine QChain.go fun Z act E => ?_
  refine qc_store rfl (wanted_none rfl) rfl Hx6.out (off := 0) (vs := (y.h.map bv)) (by rw [hyl]; exact size_hash) (by intro u hu; obtain ⟨z, -, rfl⟩ := List.mem_map.1 hu; rfl) (by rw [hyl]; decide) (E.v oe4) (ec (E.d 1)) ?_
  intro u2_1a qc0 hm
  have qB4 := qc0.eqv (b := ((y.h.map bv) : List Value).toArray) (lay_whole _ _ (by rw [hyl]; rfl))
  clear qc0
  have zu2_1a := hm.size
  refine ⟨hm.mono (by intro k hk h; omega), (fun _ => rfl), ?_⟩
  intro u2_1 hr
  have zu2_1 := hr.size
  have Hx7 := hid (qB4.mod hr (by intro h2; omega))
  have Cx8 := hid (Cx5.out.goM hm hr (fun _ _ h => h))
  clear Cx5 hm hr Z act E qB4 Hx6
  refine QChain.nil fun vs hl hzz hrows hne => ?_
  obtain ⟨Z, hYZ, hZb, hV⟩ := hzz
  have f4 := fvi hV hl 4
  have f6 := fvi hV hl 6
  have f7 := fvi hV hl 7
  rw [show vs = [gw vs 0, gw vs 1, gw vs 2, gw vs 3, gw vs 4, gw vs 5, gw vs 6, gw vs 7] from (gw_eta hl).trans rfl]
  have ha0 := HA0.out
  subst ha0
  clear HA0 hV hYZ hZb hsz0 hrows hne oe4 oe7 oe8
  simp only [putAll, Act.put, List.setIfInBounds_toArray, List.set_cons_zero, List.set_cons_succ, List.set_nil, f4, f6, f7]
  clear hl f4 f6 f7
  go_wp2
  refine bodyPost_ret (results_cell_2tmp rfl _ _ (w.heap.size + 1) (y.h.map bv) rfl (fun k u hu => by rw [Hx7.out.cell]; simpa using hu) Try.underlying32 rfl (by rw [hyl]; exact size_hash)) rfl ⟨rfl, ((HM0.out.trans Cx3.out (fun _ _ h => h.elim)).trans Cx8.out (by intro k h1 h2; omega))⟩
end Go.Proofs.Ytbifincepglilaa

/- Slices of things as arguments: whatever a reading gives of them; rows, calls, numbers, truths. -/
namespace Go.Proofs.Ytbifincepglilaa
open Go Go.RowKit Go.Gv Go.ChangeShapes Go.WideShapes Go.ChangeAt Go.Deep

/-- whatever reads as a T reads as one of A -/
def Reads {α : Type} (A : Rep α) (T : TypeId) : Prop := ∀ (H : Type) (enc : TypeId × Value → H) (W : World) (fuel : Nat) (cs : List Value) (x : DataW H × List MemPlace), DataW.trod enc Try.prog W 0 (fun _ => true) true fuel T cs = some x → ∃ a, A.rd (fun k => k < W.heap.size) W cs a
theorem all_list {α : Type} {P : List Value → α → Prop} : ∀ (css : List (List Value)), (∀ cs ∈ css, ∃ a, P cs a) → ∃ l : List α, l.length = css.length ∧ ∀ (i : Nat) cs a, css[i]? = some cs → l[i]? = some a → P cs a
  | [], _ => ⟨[], rfl, fun i cs a h => by simp at h⟩
  | c :: r, h => by
    obtain ⟨a, ha⟩ := h c (by simp)
    obtain ⟨l, h1, h2⟩ := all_list r fun cs hcs => h cs (by simp [hcs])
    refine ⟨a :: l, by simp [h1], fun i cs b hi hb => ?_⟩
    cases i with
    | zero => simp at hi hb; subst hi hb; exact ha
    | succ i => simp at hi hb; exact h2 i cs b hi hb
theorem trod_slice {α : Type} {A : Rep α} {t e : TypeId} {H : Type} {enc : TypeId × Value → H} {W : World} {fuel : Nat} {v : Value} {x : DataW H × List MemPlace} (hr : Reads A e) (ht : Try.prog.underlying t = some (.slice e)) (hce : Try.prog.cellsOf e = A.sz)
    (h : DataW.trod enc Try.prog W 0 (fun _ => true) true fuel t [v] = some x) : ∃ l : List α, RdS A (fun k => k < W.heap.size) W v l := by
  haveI : Inhabited {cs : List Value // cs.length = A.sz} := ⟨⟨List.replicate A.sz undef, by simp⟩⟩
  have hsh : ∃ ao n cap, v = .slice ao n cap ∧ n ≤ cap ∧ cap ≤ maxLen ∧ (ao = none → cap = 0) := by
    rcases open_slice ht h with ⟨hcs, _⟩ | ⟨a, len, cap, m, n, D, Pl, hcs, _, hl, hm, hmm, _, hel⟩
    · simp at hcs; subst hcs; exact ⟨none, 0, 0, rfl, Nat.le_refl _, Nat.zero_le _, fun _ => rfl⟩
    · simp at hcs; subst hcs; simp only [if_true] at hmm; subst hmm; exact ⟨some a, len, _, rfl, hl, hm, fun h => by cases h⟩
  obtain ⟨raws, h1, h2⟩ := trod_list (fun a : {cs : List Value // cs.length = A.sz} => a.1) (fun a => ∃ y, A.rd (fun k => k < W.heap.size) W a.1 y) ht hce A.pos (fun a => a.2)
    (fun fuel cs x hx => by obtain ⟨a, ha⟩ := hr H enc W fuel cs x hx; exact ⟨⟨cs, A.len ha⟩, rfl, a, ha⟩) h
  obtain ⟨l, hl, hP⟩ := all_list (P := fun cs a => A.rd (fun k => k < W.heap.size) W cs a) (raws.map (·.1)) (fun cs hcs => by obtain ⟨a, ha, rfl⟩ := List.mem_map.1 hcs; exact h2 a ha)
  have hl' : l.length = raws.length := by simpa using hl
  refine ⟨l, raws.map (·.1), by simp [hl'], hP, ?_, ?_⟩
  · have hcl : ∀ cs ∈ raws.map (·.1), cs.length = A.sz := fun cs hcs => by obtain ⟨a, _, rfl⟩ := List.mem_map.1 hcs; exact a.2
    have hfl := flat_len hcl
    rcases h1 with ⟨rfl, ao, cap, rfl⟩ | ⟨g, o, cap, hg, rfl, h0, hc, hm, hcell⟩
    · obtain ⟨ao', n', cap', e', g1, g2, g3⟩ := hsh
      cases e'
      obtain rfl : l = [] := List.eq_nil_of_length_eq_zero (by simpa using hl')
      exact Rd.zero _ _ _ _ g2 g3
    · rw [hl']
      refine Rd.mk hc hm (by rw [hfl]; simp) fun j u hu => ?_
      have hj := (List.getElem?_eq_some_iff.1 hu).1
      rw [hfl] at hj
      simp only [List.length_map] at hj
      have hq : j / A.sz < raws.length := Nat.div_lt_of_lt_mul (by rw [Nat.mul_comm]; exact hj)
      have hmod := Nat.mod_lt j A.pos
      have hdm := Nat.div_add_mod j A.sz
      have hgt := flat_get hcl (j / A.sz) raws[j / A.sz].1 (by simp [List.getElem?_eq_getElem hq]) (j % A.sz) (raws[j / A.sz].1[j % A.sz]'(by rw [raws[j / A.sz].2]; exact hmod)) (List.getElem?_eq_getElem _)
      rw [show j / A.sz * A.sz + j % A.sz = j by rw [Nat.mul_comm]; exact hdm] at hgt
      rw [hgt] at hu
      have := hcell (j / A.sz) hq (j % A.sz) u (by rw [List.getElem?_eq_getElem (by rw [raws[j / A.sz].2]; exact hmod)]; exact hu)
      rw [show o + j / A.sz * A.sz + j % A.sz = o + j by rw [Nat.add_assoc, Nat.mul_comm, hdm]] at this
      exact this
  · intro h0 g hg
    rcases h1 with ⟨rfl, ao, cap, rfl⟩ | ⟨g', o, cap, hg', rfl, _⟩
    · simp at hl'; rw [hl'] at h0; simp at h0
    · simp [Value.ownBlock] at hg; subst hg; exact hg'
theorem slice_arg {α : Type} {A : Rep α} {t e : TypeId} (hr : Reads A e) (ht : Try.prog.underlying t = some (.slice e)) (hce : Try.prog.cellsOf e = A.sz) {H : Type} {enc : TypeId × Value → H} {W : World} {v : Value} {d : DataW H} {p : List MemPlace}
    (h : DataW.Trod enc Try.prog W 0 (fun _ => true) true t v d p) {base : Nat} (hv : Value.okWide Try.prog W .any base t v) : ∃ l : List α, RdS A (fun k => k < W.heap.size) W v l := by
  obtain ⟨a0, len0, cap0, rfl⟩ := okWide_slice ht hv
  obtain ⟨fuel, hf⟩ := h
  exact trod_slice hr ht hce hf
theorem RdR_keepY {R : Nat → Prop} {N : Nat} {w w' : World} {v : Value} {bs : List Int} (h : RdR R N w v bs) (hk : ∀ p u, R p.block → w.cell? p = some u → w'.cell? p = some u) : RdR R N w' v bs :=
  ⟨⟨h.1.1, h.1.2.keepc fun h0 g hg p u hp hc => hk p u (hp ▸ h.2.1 h0 g hg) hc⟩, h.2⟩
theorem RdR_tightY {R : Nat → Prop} {N : Nat} {w : World} {v : Value} {bs : List Int} (h : RdR R N w v bs) : RdR (fun k => R k ∧ k < w.heap.size) N w v bs :=
  ⟨h.1, fun h0 g hg => ⟨h.2.1 h0 g hg, h.1.2.lt (by decide) h0 hg⟩, h.2.2⟩
/-- a call of a log's play -/
structure Ac where
  d : Int
  n : Int
  b : List Int
def Ac.OK (a : Ac) : Prop := (-9223372036854775808 ≤ a.d ∧ a.d ≤ 9223372036854775807) ∧ (-9223372036854775808 ≤ a.n ∧ a.n ≤ 9223372036854775807)
end Go.Proofs.Ytbifincepglilaa

/- A call of the stamper's play, as an argument; a map of stamps that is a law's own. -/
namespace Go.Proofs.Ytbifincepglilaa
open Go Go.RowKit Go.Gv Go.ChangeShapes Go.WideShapes Go.ChangeAt Go.Deep

structure Sa where
 d : Int
 x : Int
 t : Nat
 cl : Int
 sq : Int
 b : List Int
def Sa.OK (a : Sa) : Prop := (-9223372036854775808 ≤ a.d ∧ a.d ≤ 9223372036854775807) ∧ (-9223372036854775808 ≤ a.x ∧ a.x ≤ 9223372036854775807) ∧ a.t < U64 ∧ (-9223372036854775808 ≤ a.cl ∧ a.cl ≤ 9223372036854775807) ∧ (-9223372036854775808 ≤ a.sq ∧ a.sq ≤ 9223372036854775807)
def Sa.cells (a : Sa) (v : Value) : List Value := [.int .i64 a.d, .int .i64 a.x, .int .u64 (a.t : Nat), .int .i64 a.cl, .int .i64 a.sq, v]
def SaR : Rep Sa where
 sz := 6
 pos := by decide
 rd R w cs a := ∃ v, cs = a.cells v ∧ a.OK ∧ RdR R a.b.length w v a.b
 len h := by obtain ⟨v, rfl, _⟩ := h; rfl
 one h := by
  obtain ⟨v, rfl, _, h0⟩ := h
  obtain ⟨_, _, e⟩ := h0.shape
  subst e
  intro u hu
  simp only [Sa.cells, List.mem_cons, List.not_mem_nil, or_false] at hu
  rcases hu with rfl | rfl | rfl | rfl | rfl | rfl <;> rfl
 keep h hk := by obtain ⟨v, rfl, ho, h0⟩ := h; exact ⟨v, rfl, ho, RdR_keepY h0 hk⟩
 wid h hs := by obtain ⟨v, rfl, ho, h0⟩ := h; exact ⟨v, rfl, ho, h0.widen hs (Nat.le_refl _)⟩
 tight h := by obtain ⟨v, rfl, ho, h0⟩ := h; exact ⟨v, rfl, ho, RdR_tightY h0⟩
theorem reads_sa : Reads SaR 59 := by
 intro H enc W fuel cs x h
 obtain ⟨xs, n, _, rfl, hl, hn, hf⟩ := DataW.trod_struct Try.underlying59 h
 rw [show Try.prog.cellsOf 59 = 6 from by kernel_rfl] at hl
 have f0 : DataW.trod enc Try.prog W 0 (fun _ => true) true n 3 ((cs.drop 0).take (Try.prog.cellsOf 3)) = xs[0]? := hf 0 _ rfl
 have f1 : DataW.trod enc Try.prog W 0 (fun _ => true) true n 3 ((cs.drop 1).take (Try.prog.cellsOf 3)) = xs[1]? := hf 1 _ rfl
 have f2 : DataW.trod enc Try.prog W 0 (fun _ => true) true n 45 ((cs.drop 2).take (Try.prog.cellsOf 45)) = xs[2]? := hf 2 _ rfl
 have f3 : DataW.trod enc Try.prog W 0 (fun _ => true) true n 30 ((cs.drop 3).take (Try.prog.cellsOf 30)) = xs[3]? := hf 3 _ rfl
 have f4 : DataW.trod enc Try.prog W 0 (fun _ => true) true n 38 ((cs.drop 5).take (Try.prog.cellsOf 38)) = xs[4]? := hf 4 _ rfl
 have hxs : xs.length = 5 := hn
 rw [List.getElem?_eq_getElem (by omega)] at f0 f1 f2 f3 f4
 rw [show Try.prog.cellsOf 3 = 1 from by kernel_rfl] at f0 f1
 rw [show Try.prog.cellsOf 45 = 1 from by kernel_rfl] at f2
 rw [show Try.prog.cellsOf 30 = 2 from by kernel_rfl] at f3
 rw [show Try.prog.cellsOf 38 = 1 from by kernel_rfl] at f4
 match cs, hl with
 | [c0, c1, c2, c3, c4, c5], _ =>
  simp only [List.drop_zero, List.drop_succ_cons, List.take_succ_cons, List.take_zero] at f0 f1 f2 f3 f4
  obtain ⟨q0, e0, _, w0⟩ := DataW.trod_int Try.underlying3 f0
  obtain ⟨q1, e1, _, w1⟩ := DataW.trod_int Try.underlying3 f1
  obtain ⟨q2, e2, _, w2⟩ := DataW.trod_int Try.underlying45 f2
  obtain ⟨ys, m, _, _, hl3, hn3, hf3⟩ := DataW.trod_struct Try.underlying30 f3
  have g0 : DataW.trod enc Try.prog W 0 (fun _ => true) true m 3 (([c3, c4].drop 0).take (Try.prog.cellsOf 3)) = ys[0]? := hf3 0 _ rfl
  have g1 : DataW.trod enc Try.prog W 0 (fun _ => true) true m 3 (([c3, c4].drop 1).take (Try.prog.cellsOf 3)) = ys[1]? := hf3 1 _ rfl
  have hys : ys.length = 2 := hn3
  rw [List.getElem?_eq_getElem (by omega)] at g0 g1
  rw [show Try.prog.cellsOf 3 = 1 from by kernel_rfl] at g0 g1
  simp only [List.drop_zero, List.drop_succ_cons, List.take_succ_cons, List.take_zero] at g0 g1
  obtain ⟨q3, e3, _, w3⟩ := DataW.trod_int Try.underlying3 g0
  obtain ⟨q4, e4, _, w4⟩ := DataW.trod_int Try.underlying3 g1
  obtain ⟨b5, r5⟩ := trod_bytes f4
  obtain ⟨k2, hk2, hu2⟩ := u64_nat w2
  simp at e0 e1 e2 e3 e4
  subst e0 e1 e2 e3 e4 hk2
  exact ⟨⟨q0, q1, k2, q3, q4, b5⟩, c5, rfl, ⟨i64_bd w0, i64_bd w1, hu2, i64_bd w3, i64_bd w4⟩, r5⟩

theorem SpR.bd {R : Nat → Prop} {w : World} {p : Nat} {f k rep : Int} {s : SS} (h : SpR R w p f k rep s) : s.now < U64 ∧ s.floor + 1 < U64 ∧ s.last + 1 < U64 := by
 obtain ⟨b, -, -, -, -, -, h1, h2, h3, -⟩ := h
 exact ⟨h1, h2, h3⟩
theorem SpR.oks {R : Nat → Prop} {w : World} {p : Nat} {f k rep : Int} {s : SS} (h : SpR R w p f k rep s) : ∀ q ∈ s.m, q.2.OK := by
 obtain ⟨b, -, -, -, -, -, -, -, -, h4⟩ := h
 exact h4
abbrev GmI (w : World) (b : Nat) (l : NMap) : Prop := MapIs w b nmV St.val NmK l
theorem ex_lenM {w : World} {a : Act} {o : Oper} {x : Operand} {b : Nat} {l : NMap} (ho : o.op = .call { callee := .builtin .len, args := #[x], argTypes := #[57] }) (hx : a.eval x = .map (some b)) (h : GmI w b l) : (execOp a.eval o).run Try.prog w = .ok (.value (.int .i64 ((l.length : Nat) : Int))) w := by
 have hl := h.len Try.underlying57 o.type
 unfold execOp
 simp [ho, resolve, invoke, builtin, hx, hl, Result.andThen]
end Go.Proofs.Ytbifincepglilaa

/- A law's own map of hashes and times; a range over it. -/
namespace Go.Proofs.Ytbifincepglilaa
open Go Go.RowKit Go.Gv

abbrev kpC (y : St) : List Value := y.h.map bv ++ [.int .u64 (y.tm : Nat)]
abbrev kpV (y : St) : Value := .agg (kpC y).toArray
theorem kpC_len {y : St} (h : y.OK) : (kpC y).length = 33 := by simp [kpC, h.h.1]
theorem kpC_one (y : St) : ∀ u ∈ kpC y, u.oneCell' = true := by
  intro u hu
  simp only [kpC, List.mem_append, List.mem_cons, List.not_mem_nil, or_false, List.mem_map] at hu
  rcases hu with ⟨z, -, rfl⟩ | rfl <;> rfl
theorem zero_kp : (Try.prog.info? 67).bind (·.zero) = some (kpV zSt) := by kernel_rfl
theorem set_same {α : Type} {l : List α} {j : Nat} {x : α} (h : l[j]? = some x) : l.set j x = l := by
  apply List.ext_getElem?
  intro i
  rw [List.getElem?_set]
  by_cases hi : j = i
  · subst hi
    rw [if_pos rfl, h]
    have := (List.getElem?_eq_some_iff.1 h).1
    simp [this]
  · rw [if_neg hi]
/-- what stands in the map; each entry's number is one that was given, no two have one -/
structure EsOf (es : Array MapEntry) (clock : Nat) (l : NMap) : Prop where
  kv : es.toList.map (fun e => (e.key, e.val)) = l.map (fun p => (nmV p.1, kpV p.2))
  lt : ∀ e ∈ es.toList, e.born < clock
  nd : (es.toList.map (·.born)).Nodup
  ok : ∀ p ∈ l, NmK p.1
  pw : l.Pairwise (fun p q => p.1 ≠ q.1)
def HmE (w : World) (b : Nat) (es : Array MapEntry) (clock : Nat) : Prop := w.heap[b]? = some (.map es clock)
def HmB (w : World) (b : Nat) (l : NMap) : Prop := ∃ es clock, HmE w b es clock ∧ EsOf es clock l
def ItE (w : World) (r b clock : Nat) (seen : Array Nat) : Prop := w.heap[r]? = some (.mapIter (some b) clock seen clock)
section
variable {w w' : World} {b c r clock : Nat} {l : NMap} {a : Int × Int} {S : Nat → Prop} {es : Array MapEntry} {seen : Array Nat}
theorem HmE.mod (h : HmE w b es clock) (hm : Mod S w w') (hn : ¬ S b) : HmE w' b es clock := hm.obj h hn
theorem ItE.mod (h : ItE w r b clock seen) (hm : Mod S w w') (hn : ¬ S r) : ItE w' r b clock seen := hm.obj h hn
theorem HmB.mod (h : HmB w b l) (hm : Mod S w w') (hn : ¬ S b) : HmB w' b l := by
  obtain ⟨es, k, h1, h2⟩ := h
  exact ⟨es, k, h1.mod hm hn, h2⟩
theorem HmE.lt (h : HmE w b es clock) : b < w.heap.size := (Array.getElem?_eq_some_iff.1 h).1
theorem ItE.lt (h : ItE w r b clock seen) : r < w.heap.size := (Array.getElem?_eq_some_iff.1 h).1
theorem HmB.lt (h : HmB w b l) : b < w.heap.size := by
  obtain ⟨es, k, h1, h2⟩ := h
  exact h1.lt
theorem HmB.is (h : HmB w b l) : MapIs w b nmV kpV NmK l := by
  obtain ⟨es, k, h1, h2⟩ := h
  exact ⟨⟨es, k, h1, h2.kv⟩, h2.ok, h2.pw⟩
theorem mod_set (w : World) (b : Nat) (o : Obj) : Mod (fun i => i = b) w { w with heap := w.heap.setIfInBounds b o } :=
  ⟨rfl, rfl, rfl, by simp, fun i hi hn => by simp [show ¬ b = i from fun e => hn e.symm]⟩
theorem HmB.upd (h : HmB w b l) (ha : NmK a) {y : St} {l' : NMap} (hl : (mlook l a = none ∧ l' = l ++ [(a, y)]) ∨ (mlook l a = some y ∧ l' = l)) : ∃ w1, (Instr.mapUpdate 63 (.map (some b)) (nmV a) (kpV y)).run Try.prog w = .ok () w1 ∧ HmB w1 b l' ∧ Mod (fun k => k = b) w w1 := by
  obtain ⟨es, clock, hb, he⟩ := h
  unfold HmE at hb
  obtain ⟨lk, hk⟩ := nm_enc.key a ha
  have hlt := (Array.getElem?_eq_some_iff.1 hb).1
  rcases MapIs.found ⟨⟨es, clock, hb, he.kv⟩, he.ok, he.pw⟩ nm_enc hb he.kv a ha with ⟨f1, f2⟩ | ⟨j, p, f1, f2, f3, f4⟩
  · rcases hl with ⟨hn, rfl⟩ | ⟨hn, -⟩
    · refine ⟨{ w with heap := w.heap.setIfInBounds b (.map (es.push ⟨nmV a, kpV y, clock⟩) (clock + 1)) }, ?_, ⟨es.push ⟨nmV a, kpV y, clock⟩, clock + 1, by unfold HmE; simp [hlt], ?_, ?_, ?_, ?_, ?_⟩, mod_set _ _ _⟩
      · simp [Instr.mapUpdate, run_underlying Try.underlying63, MapKept.run_getObj_map hb, nm_enc.law.check w false hk, f1, MapKept.run_setObj_map _ hb, Result.andThen]
      · have := he.kv
        simp [this]
      · intro e h2
        simp at h2
        rcases h2 with h2 | h2
        · have := he.lt e (by simpa using h2); omega
        · subst h2; exact Nat.lt_succ_self _
      · rw [Array.toList_push, List.map_append, List.nodup_append]
        refine ⟨he.nd, by simp, ?_⟩
        intro x hx z hz
        obtain ⟨e, h2, rfl⟩ := List.mem_map.1 hx
        simp at hz
        have := he.lt e h2
        omega
      · intro q hq
        rcases List.mem_append.1 hq with hq | hq
        · exact he.ok q hq
        · simp at hq; subst hq; exact ha
      · rw [List.pairwise_append]
        refine ⟨he.pw, List.pairwise_singleton _ _, fun p hp q hq => ?_⟩
        simp at hq
        subst hq
        exact f2 p hp
    · rw [mlook_none f2] at hn
      cases hn
  · rcases hl with ⟨hn, -⟩ | ⟨hn, rfl⟩
    · rw [mlook_at he.pw f2 f3] at hn
      cases hn
    · rw [mlook_at he.pw f2 f3] at hn
      obtain ⟨p1, p2⟩ := p
      simp only at f3
      subst f3
      obtain rfl : p2 = y := Option.some.inj hn
      cases hj : es[j]? with
      | none => rw [hj] at f4; cases f4
      | some e0 =>
        rw [hj] at f4
        have hek : e0.key = nmV p1 := Option.some.inj f4
        have hj2 : es.toList[j]? = some e0 := by rw [Array.getElem?_toList]; exact hj
        have hmd : (es.modify j (fun e' => { e' with key := nmV p1, val := kpV p2 })).toList = es.toList.set j { e0 with key := nmV p1, val := kpV p2 } := by
          rw [Array.toList_modify, Go.ChangeMaps.modify_eq_set _ _ _ _ hj2]
        have hbm : (es.toList.set j { e0 with key := nmV p1, val := kpV p2 }).map (·.born) = es.toList.map (·.born) := by
          rw [List.map_set]
          exact set_same (by rw [List.getElem?_map, hj2]; rfl)
        refine ⟨{ w with heap := w.heap.setIfInBounds b (.map (es.modify j (fun e' => { e' with key := nmV p1, val := kpV p2 })) clock) }, ?_, ⟨es.modify j (fun e' => { e' with key := nmV p1, val := kpV p2 }), clock, by unfold HmE; simp [hlt], ?_, ?_, ?_, he.ok, he.pw⟩, mod_set _ _ _⟩
        · simp [Instr.mapUpdate, run_underlying Try.underlying63, MapKept.run_getObj_map hb, nm_enc.law.check w false hk, f1, hj, hek, nm_enc.law.stays w hk, MapKept.run_setObj_map _ hb, Result.andThen]
        · rw [hmd, List.map_set, he.kv]
          exact set_same (by rw [List.getElem?_map, f2]; rfl)
        · intro e h2
          rw [hmd] at h2
          have hin : e.born ∈ es.toList.map (·.born) := by rw [← hbm]; exact List.mem_map.2 ⟨e, h2, rfl⟩
          obtain ⟨e1, h3, h4⟩ := List.mem_map.1 hin
          rw [← h4]
          exact he.lt e1 h3
        · rw [hmd, hbm]
          exact he.nd
def lookK (l : NMap) (k : Int × Int) : Value := .tuple #[kpV ((mlook l k).getD zSt), .bool (mhas l k)]
theorem lookK_none {k : Int × Int} (h : mlook l k = none) : lookK l k = .tuple #[kpV zSt, .bool false] := by unfold lookK mhas; rw [h]; rfl
theorem lookK_some {k : Int × Int} {y : St} (h : mlook l k = some y) : lookK l k = .tuple #[kpV y, .bool true] := by unfold lookK mhas; rw [h]; rfl
theorem ex_lookK {act : Act} {o : Oper} {x y : Operand} {k : Int × Int} {v : Value} (ho : o.op = .lookup 63 x y true) (hx : act.eval x = .map (some b)) (hy : act.eval y = nmV k) (hk : NmK k) (h : HmB w b l) (hv : lookK l k = v) : (execOp act.eval o).run Try.prog w = .ok (.value v) w := by
  have hl := h.is.lookup nm_enc Try.underlying63 (zero_run zero_kp w) k hk true
  have e : ((mlook l k).map kpV).getD (kpV zSt) = kpV ((mlook l k).getD zSt) := by cases mlook l k <;> rfl
  rw [if_pos rfl, e, show Value.tuple #[kpV ((mlook l k).getD zSt), .bool (mhas l k)] = v from hv] at hl
  unfold execOp
  simp [ho, hx, hy, hl, Result.andThen]
theorem ex_lenK {act : Act} {o : Oper} {x : Operand} (ho : o.op = .call { callee := .builtin .len, args := #[x], argTypes := #[63] }) (hx : act.eval x = .map (some b)) (h : HmB w b l) : (execOp act.eval o).run Try.prog w = .ok (.value (.int .i64 ((l.length : Nat) : Int))) w := by
  have hl := h.is.len Try.underlying63 o.type
  unfold execOp
  simp [ho, resolve, invoke, builtin, hx, hl, Result.andThen]
theorem next_cases (hi : ItE w r b clock seen) (hm : HmE w b es clock) (he : EsOf es clock l) :
    ((leftOf es seen).size = 0 ∧ ∀ ty, (Instr.next (.pointer (some ⟨r, 0, none⟩)) false ty).run Try.prog w = .ok (.tuple #[.bool false]) w) ∨
    ∃ e n y w1, e ∈ (leftOf es seen).toList ∧ (n, y) ∈ l ∧ e.key = nmV n ∧ e.val = kpV y ∧ (∀ ty, (Instr.next (.pointer (some ⟨r, 0, none⟩)) false ty).run Try.prog w = .ok (.tuple #[.bool true, nmV n, kpV y]) w1) ∧ ItE w1 r b clock (seen.push e.born) ∧ Mod (fun k => k = r) w w1 := by
  have hlt := hi.lt
  rcases run_next_at (P := Try.prog) w 0 r b clock clock seen es clock hi hm he.lt (Nat.le_refl _) with ⟨h0, hr⟩ | ⟨e, hel, w1, hw1, hr⟩
  · exact Or.inl ⟨h0, fun ty => hr⟩
  · right
    have hes := (mem_left hel).1
    have hin : (e.key, e.val) ∈ l.map (fun p => (nmV p.1, kpV p.2)) := by rw [← he.kv]; exact List.mem_map.2 ⟨e, hes, rfl⟩
    obtain ⟨⟨n, y⟩, hp, heq⟩ := List.mem_map.1 hin
    have h1 : nmV n = e.key := congrArg Prod.fst heq
    have h2 : kpV y = e.val := congrArg Prod.snd heq
    refine ⟨e, n, y, _, hel, hp, h1.symm, h2.symm, fun ty => (by rw [h1, h2]; exact hr), ?_, ?_⟩
    · have : r < w1.heap.size := by rcases hw1 with rfl | rfl <;> exact hlt
      unfold ItE Go.ChangeMaps.setBlock
      simp [this]
    · rcases hw1 with rfl | rfl
      · exact mod_set _ _ _
      · exact ((Mod.refl (fun k => k = r) w).drew).trans (mod_set _ _ _) (fun _ _ h => h)
def itLeft (es : Array MapEntry) (r : Nat) (w : World) : Nat := match w.heap[r]? with
  | some (.mapIter _ _ seen _) => (leftOf es seen).size
  | _ => 0
theorem itLeft_eq (h : ItE w r b clock seen) : itLeft es r w = (leftOf es seen).size := by unfold itLeft; rw [show w.heap[r]? = _ from h]
theorem ex_next0 {act : Act} {o : Oper} {x : Operand} {v : Value} (ho : o.op = .next x false) (hx : act.eval x = .pointer (some ⟨r, 0, none⟩)) (h : ∀ ty, (Instr.next (.pointer (some ⟨r, 0, none⟩)) false ty).run Try.prog w = .ok v w') : (execOp act.eval o).run Try.prog w = .ok (.value v) w' := by
  unfold execOp
  simp [ho, hx, h, Result.andThen]
theorem ex_entry0 {act : Act} {o : Oper} {x : Operand} {e : MapEntry} {n : Int × Int} {y : St} (ho : o.op = .entry x) (hx : act.eval x = .pointer (some ⟨r, 0, none⟩)) (hi : ItE w r b clock (seen.push e.born)) (hm : HmE w b es clock) (he : EsOf es clock l) (hel : e ∈ (leftOf es seen).toList) (hk : e.key = nmV n) (hv : e.val = kpV y) : (execOp act.eval o).run Try.prog w = .ok (.value (.tuple #[nmV n, kpV y])) w := by
  have hr := run_entry_at (P := Try.prog) w r b clock seen es clock e hi hm (mem_left hel).1 he.nd
  rw [hk, hv] at hr
  unfold execOp
  simp [ho, hx, hr, Result.andThen]
section
variable {ops : Array Oper} {Q : Exit → Act → World → Prop} {i : Nat} {o : Oper} {act : Act} {KQ : Value → World → Prop}
theorem qc_updK {k : Int × Int} {x z u : Operand} {y : St} {l' : NMap} (ho : ops[i]? = some o) (hw : Region.wanted o (yielded ops act.tmps) = true) (hop : o.op = .mapUpdate 63 x z u) (hx : act.eval x = .map (some b)) (hz : act.eval z = nmV k) (hu : act.eval u = kpV y) (hk : NmK k) (hm : HmB w b l) (hl : (mlook l k = none ∧ l' = l ++ [(k, y)]) ∨ (mlook l k = some y ∧ l' = l))
    (h : ∀ w', HmB w' b l' → Mod (fun j => j = b) w w' → KQ undef w') : wpOp Try.prog ops Q i (fun a' w' => ∃ v, a' = act.put o.dst v ∧ KQ v w') act w := by
  obtain ⟨w1, hr, h1, h2⟩ := hm.upd hk hl
  refine qc_turn ho hw ?_ (h w1 h1 h2)
  unfold execOp
  simp [hop, hx, hz, hu, hr, Result.andThen]
theorem qc_mapK (ho : ops[i]? = some o) (hw : Region.wanted o (yielded ops act.tmps) = true) (hop : o.op = .makeMap 63 none)
    (h : ∀ w', HmB w' w.heap.size [] → Mod (fun _ => False) w w' → KQ (.map (some w.heap.size)) w') : wpOp Try.prog ops Q i (fun a' w' => ∃ v, a' = act.put o.dst v ∧ KQ v w') act w := by
  refine qc_run ho hw ?_ (h (w.alloc (.map #[] 0)) ⟨#[], 0, heap_alloc_new w _, rfl, (fun e he => by simp at he), by simp, (fun e he => by cases he), List.Pairwise.nil⟩ ((Mod.refl _ _).alloc _))
  unfold execOp
  simp [hop, Instr.makeMap, Result.andThen]
theorem qc_range {x : Operand} (ho : ops[i]? = some o) (hw : Region.wanted o (yielded ops act.tmps) = true) (hop : o.op = .range 63 x) (hx : act.eval x = .map (some b)) (hm : HmE w b es clock)
    (h : ∀ w', ItE w' w.heap.size b clock #[] → Mod (fun _ => False) w w' → KQ (.pointer (some ⟨w.heap.size, 0, none⟩)) w') : wpOp Try.prog ops Q i (fun a' w' => ∃ v, a' = act.put o.dst v ∧ KQ v w') act w := by
  unfold HmE at hm
  refine qc_run ho hw ?_ (h (w.alloc (.mapIter (some b) clock #[] clock)) (heap_alloc_new w _) ((Mod.refl _ _).alloc _))
  unfold execOp
  simp [hop, hx, Instr.range, run_underlying Try.underlying63, MapKept.run_getObj_map hm, Result.andThen]
theorem qc_next {x : Operand} {v : Value} {w1 : World} (ho : ops[i]? = some o) (hw : Region.wanted o (yielded ops act.tmps) = true) (hop : o.op = .next x false) (hx : act.eval x = .pointer (some ⟨r, 0, none⟩)) (hr : ∀ ty, (Instr.next (.pointer (some ⟨r, 0, none⟩)) false ty).run Try.prog w = .ok v w1) (hi : ItE w1 r b clock seen) (hm : Mod (fun k => k = r) w w1)
    (h : ∀ w', ItE w' r b clock seen → Mod (fun k => k = r) w w' → KQ v w') : wpOp Try.prog ops Q i (fun a' w' => ∃ v, a' = act.put o.dst v ∧ KQ v w') act w :=
  qc_run ho hw (ex_next0 hop hx hr) (h w1 hi hm)
end
end
theorem SpR.pw {R : Nat → Prop} {w : World} {p : Nat} {f k rep : Int} {s : SS} (h : SpR R w p f k rep s) : (s.m.Pairwise (fun p q => p.1 ≠ q.1)) ∧ ∀ q ∈ s.m, NmK q.1 := by
  obtain ⟨b, -, -, -, hm, -⟩ := h
  exact ⟨hm.1.2.2, hm.1.2.1⟩
theorem mlook_mem {l : NMap} (h : l.Pairwise (fun p q => p.1 ≠ q.1)) {n : Int × Int} {y : St} (hm : (n, y) ∈ l) : mlook l n = some y := by
  obtain ⟨j, hj⟩ := List.getElem?_of_mem hm
  exact mlook_at h hj rfl
end Go.Proofs.Ytbifincepglilaa
