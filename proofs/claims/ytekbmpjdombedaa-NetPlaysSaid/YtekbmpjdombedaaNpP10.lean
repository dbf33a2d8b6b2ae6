/- NetPlays: whatever is sent, taken, doubled, looked at, each call answers what the document says; a clone goes its own way: for every room and every two lists of calls the law returns true. No condition. -/
import Derived.Test.YtekbmpjdombedaaNpP9
import Derived.Deep.CutBlock
import Derived.ProofKit
import Derived.OpenShut
import Derived.ChangeOld
set_option maxRecDepth 100000
set_option linter.unusedVariables false
open List renaming setIfInBounds_toArray → sIB, set_cons_zero → sCZ, set_cons_succ → sCS
/- Pairs, commitments as arguments. -/
namespace Go.Proofs.Ytekbmpjdombedaa
open Go Go.RowKit Go.Gv Go.ChangeShapes Go.WideShapes Go.ChangeAt Go.Deep

section
variable {H : Type} {enc : TypeId × Value → H} {W : World}
theorem trod_pair {t : TypeId} {fs : Array Field} {fuel : Nat} {cs : List Value} {x : DataW H × List MemPlace} (ht : Try.prog.underlying t = some (.struct fs)) (hs : fs.size = 2) (h0 : (fs[0]?).map (fun f => (f.offset, f.type)) = some (0, 3)) (h1 : (fs[1]?).map (fun f => (f.offset, f.type)) = some (1, 3)) (hc : Try.prog.cellsOf t = 2)
    (h : DataW.trod enc Try.prog W 0 (fun _ => true) true fuel t cs = some x) : ∃ a b : Int, cs = [.int .i64 a, .int .i64 b] ∧ I64 a ∧ I64 b := by
  obtain ⟨xs, n, _, -, hl, hn, hf⟩ := DataW.trod_struct ht h
  rw [hc] at hl
  have hxs : xs.length = 2 := hn.trans hs
  obtain ⟨q0, e0, hq0⟩ : ∃ f, fs[0]? = some f ∧ (f.offset, f.type) = (0, 3) := by
    cases hh : fs[0]? with
    | none => rw [hh] at h0; cases h0
    | some f => rw [hh] at h0; exact ⟨f, rfl, Option.some.inj h0⟩
  obtain ⟨q1, e1, hq1⟩ : ∃ f, fs[1]? = some f ∧ (f.offset, f.type) = (1, 3) := by
    cases hh : fs[1]? with
    | none => rw [hh] at h1; cases h1
    | some f => rw [hh] at h1; exact ⟨f, rfl, Option.some.inj h1⟩
  have f0 := hf 0 _ e0
  have f1 := hf 1 _ e1
  rw [show q0.offset = 0 from congrArg Prod.fst hq0, show q0.type = 3 from congrArg Prod.snd hq0] at f0
  rw [show q1.offset = 1 from congrArg Prod.fst hq1, show q1.type = 3 from congrArg Prod.snd hq1] at f1
  rw [List.getElem?_eq_getElem (by omega), show Try.prog.cellsOf 3 = 1 from by kernel_rfl] at f0 f1
  match cs, hl with
  | [c0, c1], _ =>
    simp only [List.drop_zero, List.drop_succ_cons, List.take_succ_cons, List.take_zero] at f0 f1
    obtain ⟨p0, e0, _, w0⟩ := DataW.trod_int Try.underlying3 f0
    obtain ⟨p1, e1, _, w1⟩ := DataW.trod_int Try.underlying3 f1
    simp at e0 e1
    subst e0 e1
    exact ⟨p0, p1, rfl, bounds_i64 w0, bounds_i64 w1⟩
theorem cm_cells {fuel : Nat} {cs : List Value} {x : DataW H × List MemPlace} (h : DataW.trod enc Try.prog W 0 (fun _ => true) true fuel 35 cs = some x) : ∃ c : Cm, cs = c.cells ∧ c.OK := by
  obtain ⟨xs, n, _, -, hl, hn, hf⟩ := DataW.trod_struct Try.underlying35 h
  rw [show Try.prog.cellsOf 35 = 37 from by kernel_rfl] at hl
  have hxs : xs.length = 4 := hn
  have f0 : DataW.trod enc Try.prog W 0 (fun _ => true) true n 29 ((cs.drop 0).take (Try.prog.cellsOf 29)) = xs[0]? := hf 0 _ rfl
  have f1 : DataW.trod enc Try.prog W 0 (fun _ => true) true n 31 ((cs.drop 2).take (Try.prog.cellsOf 31)) = xs[1]? := hf 1 _ rfl
  have f2 : DataW.trod enc Try.prog W 0 (fun _ => true) true n 3 ((cs.drop 34).take (Try.prog.cellsOf 3)) = xs[2]? := hf 2 _ rfl
  have f3 : DataW.trod enc Try.prog W 0 (fun _ => true) true n 33 ((cs.drop 35).take (Try.prog.cellsOf 33)) = xs[3]? := hf 3 _ rfl
  rw [List.getElem?_eq_getElem (by omega)] at f0 f1 f2 f3
  obtain ⟨a, b, e0, h1, h2⟩ := trod_pair Try.underlying29 rfl rfl rfl (by kernel_rfl) f0
  obtain ⟨hs, e1, hb, hl32⟩ := trod_arr Try.underlying31 Try.underlying5 (by kernel_rfl) (by kernel_rfl) f1
  obtain ⟨sa, sb, e3, h3, h4⟩ := trod_pair Try.underlying33 rfl rfl rfl (by kernel_rfl) f3
  rw [show Try.prog.cellsOf 29 = 2 from by kernel_rfl] at e0
  rw [show Try.prog.cellsOf 31 = 32 from by kernel_rfl] at e1
  rw [show Try.prog.cellsOf 3 = 1 from by kernel_rfl] at f2
  rw [show Try.prog.cellsOf 33 = 2 from by kernel_rfl] at e3
  obtain ⟨q, e2, _, w2⟩ := DataW.trod_int Try.underlying3 f2
  refine ⟨⟨a, b, hs, q, sa, sb⟩, ?_, ⟨h1, h2, bounds_i64 w2, h3, h4⟩, hl32, hb⟩
  have d1 : cs = cs.take 2 ++ cs.drop 2 := (List.take_append_drop 2 cs).symm
  have d2 : cs.drop 2 = (cs.drop 2).take 32 ++ cs.drop 34 := by conv => lhs; rw [← List.take_append_drop 32 (cs.drop 2)]; rw [List.drop_drop]
  have d3 : cs.drop 34 = (cs.drop 34).take 1 ++ cs.drop 35 := by conv => lhs; rw [← List.take_append_drop 1 (cs.drop 34)]; rw [List.drop_drop]
  have d4 : cs.drop 35 = (cs.drop 35).take 2 := (List.take_of_length_le (by rw [List.length_drop]; omega)).symm
  rw [List.drop_zero] at e0
  rw [d1, d2, d3, d4, e0, e1, e2, e3]
  rfl
end
end Go.Proofs.Ytekbmpjdombedaa

/- Things as arguments: whatever a reading gives of them. -/
namespace Go.Proofs.Ytekbmpjdombedaa
open Go Go.RowKit Go.Gv Go.ChangeShapes Go.WideShapes Go.ChangeAt Go.Deep

def segs (cs : List Value) : Nat → List Nat → List (List Value)
  | _, [] => []
  | off, n :: ns => (cs.drop off).take n :: segs cs (off + n) ns
theorem segs_all (cs : List Value) : ∀ (ns : List Nat) (off : Nat), cs.length = off + ns.sum → cs.drop off = (segs cs off ns).flatten
  | [], off, h => by simp at h; simp [segs, List.drop_of_length_le (show cs.length ≤ off by omega)]
  | n :: ns, off, h => by
    have ih := segs_all cs ns (off + n) (by simp at h; omega)
    simp only [segs, List.flatten_cons]
    rw [← ih, ← List.drop_drop, List.take_append_drop]
theorem seg_one {cs : List Value} {off : Nat} (h : off < cs.length) : ∃ v, (cs.drop off).take 1 = [v] := ⟨cs[off], by rw [List.drop_eq_getElem_cons h]; rfl⟩
/-- whatever reads as a T reads as one of A -/
def Reads {α : Type} (A : Rep α) (T : TypeId) : Prop := ∀ (H : Type) (enc : TypeId × Value → H) (W : World) (fuel : Nat) (cs : List Value) (x : DataW H × List MemPlace), DataW.trod enc Try.prog W 0 (fun _ => true) true fuel T cs = some x → ∃ a, A.rd (fun k => k < W.heap.size) W cs a
theorem all_list {α : Type} {P : List Value → α → Prop} : ∀ (css : List (List Value)), (∀ cs ∈ css, ∃ a, P cs a) → ∃ l : List α, l.length = css.length ∧ ∀ (i : Nat) cs a, css[i]? = some cs → l[i]? = some a → P cs a
  | [], _ => ⟨[], rfl, fun i cs a h => by simp at h⟩
  | c :: r, h => by
    obtain ⟨a, ha⟩ := h c (by simp)
    obtain ⟨l, h1, h2⟩ := all_list r fun cs hcs => h cs (by simp [hcs])
    refine ⟨a :: l, by simp [h1], fun i cs b hi hb => ?_⟩
    cases i with
    | zero => simp at hi hb; subst hi hb; exact ha
    | succ i => simp at hi hb; exact h2 i cs b hi hb
theorem trod_slice {α : Type} {A : Rep α} {t e : TypeId} {H : Type} {enc : TypeId × Value → H} {W : World} {fuel : Nat} {v : Value} {x : DataW H × List MemPlace} (hr : Reads A e) (ht : Try.prog.underlying t = some (.slice e)) (hce : Try.prog.cellsOf e = A.sz)
    (h : DataW.trod enc Try.prog W 0 (fun _ => true) true fuel t [v] = some x) : ∃ l : List α, RdS A (fun k => k < W.heap.size) W v l := by
  haveI : Inhabited {cs : List Value // cs.length = A.sz} := ⟨⟨List.replicate A.sz undef, by simp⟩⟩
  have hsh : ∃ ao n cap, v = .slice ao n cap ∧ n ≤ cap ∧ cap ≤ maxLen ∧ (ao = none → cap = 0) := by
    rcases open_slice ht h with ⟨hcs, _⟩ | ⟨a, len, cap, m, n, D, Pl, hcs, _, hl, hm, hmm, _, hel⟩
    · simp at hcs; subst hcs; exact ⟨none, 0, 0, rfl, Nat.le_refl _, Nat.zero_le _, fun _ => rfl⟩
    · simp at hcs; subst hcs; simp only [if_true] at hmm; subst hmm; exact ⟨some a, len, _, rfl, hl, hm, fun h => by cases h⟩
  obtain ⟨raws, h1, h2⟩ := trod_list (fun a : {cs : List Value // cs.length = A.sz} => a.1) (fun a => ∃ y, A.rd (fun k => k < W.heap.size) W a.1 y) ht hce A.pos (fun a => a.2)
    (fun fuel cs x hx => by obtain ⟨a, ha⟩ := hr H enc W fuel cs x hx; exact ⟨⟨cs, A.len ha⟩, rfl, a, ha⟩) h
  obtain ⟨l, hl, hP⟩ := all_list (P := fun cs a => A.rd (fun k => k < W.heap.size) W cs a) (raws.map (·.1)) (fun cs hcs => by obtain ⟨a, ha, rfl⟩ := List.mem_map.1 hcs; exact h2 a ha)
  have hl' : l.length = raws.length := by simpa using hl
  refine ⟨l, raws.map (·.1), by simp [hl'], hP, ?_, ?_⟩
  · have hcl : ∀ cs ∈ raws.map (·.1), cs.length = A.sz := fun cs hcs => by obtain ⟨a, _, rfl⟩ := List.mem_map.1 hcs; exact a.2
    have hfl := flat_len hcl
    rcases h1 with ⟨rfl, ao, cap, rfl⟩ | ⟨g, o, cap, hg, rfl, h0, hc, hm, hcell⟩
    · obtain ⟨ao', n', cap', e', g1, g2, g3⟩ := hsh
      cases e'
      obtain rfl : l = [] := List.eq_nil_of_length_eq_zero (by simpa using hl')
      exact Rd.zero _ _ _ _ g2 g3
    · rw [hl']
      refine Rd.mk hc hm (by rw [hfl]; simp) fun j u hu => ?_
      have hj := (List.getElem?_eq_some_iff.1 hu).1
      rw [hfl] at hj
      simp only [List.length_map] at hj
      have hq : j / A.sz < raws.length := Nat.div_lt_of_lt_mul (by rw [Nat.mul_comm]; exact hj)
      have hmod := Nat.mod_lt j A.pos
      have hdm := Nat.div_add_mod j A.sz
      have hgt := flat_get hcl (j / A.sz) raws[j / A.sz].1 (by simp [List.getElem?_eq_getElem hq]) (j % A.sz) (raws[j / A.sz].1[j % A.sz]'(by rw [raws[j / A.sz].2]; exact hmod)) (List.getElem?_eq_getElem _)
      rw [show j / A.sz * A.sz + j % A.sz = j by rw [Nat.mul_comm]; exact hdm] at hgt
      rw [hgt] at hu
      have := hcell (j / A.sz) hq (j % A.sz) u (by rw [List.getElem?_eq_getElem (by rw [raws[j / A.sz].2]; exact hmod)]; exact hu)
      rw [show o + j / A.sz * A.sz + j % A.sz = o + j by rw [Nat.add_assoc, Nat.mul_comm, hdm]] at this
      exact this
  · intro h0 g hg
    rcases h1 with ⟨rfl, ao, cap, rfl⟩ | ⟨g', o, cap, hg', rfl, _⟩
    · simp at hl'; rw [hl'] at h0; simp at h0
    · simp [Value.ownBlock] at hg; subst hg; exact hg'
theorem reads_cm : Reads CmR 35 := fun H enc W fuel cs x h => by obtain ⟨c, e, hok⟩ := cm_cells h; exact ⟨c, e, hok⟩
theorem reads_st : Reads StR 38 := by
  intro H enc W fuel cs x h
  obtain ⟨xs, n, _, -, hl, hn, hf⟩ := DataW.trod_struct Try.underlying38 h
  rw [show Try.prog.cellsOf 38 = 38 from by kernel_rfl] at hl
  have hxs : xs.length = 5 := hn
  have f0 : DataW.trod enc Try.prog W 0 (fun _ => true) true n 3 ((cs.drop 0).take (Try.prog.cellsOf 3)) = xs[0]? := hf 0 _ rfl
  rw [List.getElem?_eq_getElem (by omega), show Try.prog.cellsOf 3 = 1 from by kernel_rfl] at f0
  have f1 : DataW.trod enc Try.prog W 0 (fun _ => true) true n 29 ((cs.drop 1).take (Try.prog.cellsOf 29)) = xs[1]? := hf 1 _ rfl
  rw [List.getElem?_eq_getElem (by omega), show Try.prog.cellsOf 29 = 2 from by kernel_rfl] at f1
  have f2 : DataW.trod enc Try.prog W 0 (fun _ => true) true n 31 ((cs.drop 3).take (Try.prog.cellsOf 31)) = xs[2]? := hf 2 _ rfl
  rw [List.getElem?_eq_getElem (by omega), show Try.prog.cellsOf 31 = 32 from by kernel_rfl] at f2
  have f3 : DataW.trod enc Try.prog W 0 (fun _ => true) true n 36 ((cs.drop 35).take (Try.prog.cellsOf 36)) = xs[3]? := hf 3 _ rfl
  rw [List.getElem?_eq_getElem (by omega), show Try.prog.cellsOf 36 = 1 from by kernel_rfl] at f3
  have f4 : DataW.trod enc Try.prog W 0 (fun _ => true) true n 33 ((cs.drop 36).take (Try.prog.cellsOf 33)) = xs[4]? := hf 4 _ rfl
  rw [List.getElem?_eq_getElem (by omega), show Try.prog.cellsOf 33 = 2 from by kernel_rfl] at f4
  obtain ⟨rp, e0, _, w0⟩ := DataW.trod_int Try.underlying3 f0
  obtain ⟨cl, sq, e1, w1, w1'⟩ := trod_pair Try.underlying29 rfl rfl rfl (by kernel_rfl) f1
  obtain ⟨hh, e2, w2, w2'⟩ := trod_arr Try.underlying31 Try.underlying5 (by kernel_rfl) (by kernel_rfl) f2
  obtain ⟨tm', e3, _, w3⟩ := DataW.trod_int Try.underlying36 f3
  obtain ⟨tm, rfl, w3'⟩ := u64_nat w3
  obtain ⟨sb, mr, e4, w4, w4'⟩ := trod_pair Try.underlying33 rfl rfl rfl (by kernel_rfl) f4
  have hcs := segs_all cs [1, 2, 32, 1, 2] 0 (by simpa using hl)
  simp only [List.drop_zero, segs, List.flatten_cons, List.flatten_nil, List.append_nil, Nat.zero_add, Nat.reduceAdd, e0, e1, e2, e3, e4] at hcs
  (try rw [List.drop_zero] at e0)
  (try simp only [e0] at hcs)
  exact ⟨⟨rp, cl, sq, hh, tm, sb, mr⟩, by rw [hcs]; rfl, ⟨bounds_i64 w0, w1, w1', ⟨w2', w2⟩, w3', w4, w4'⟩⟩
theorem reads_ak : Reads StR 43 := by
  intro H enc W fuel cs x h
  obtain ⟨xs, n, _, -, hl, hn, hf⟩ := DataW.trod_struct Try.underlying43 h
  rw [show Try.prog.cellsOf 43 = 38 from by kernel_rfl] at hl
  have hxs : xs.length = 5 := hn
  have f0 : DataW.trod enc Try.prog W 0 (fun _ => true) true n 3 ((cs.drop 0).take (Try.prog.cellsOf 3)) = xs[0]? := hf 0 _ rfl
  rw [List.getElem?_eq_getElem (by omega), show Try.prog.cellsOf 3 = 1 from by kernel_rfl] at f0
  have f1 : DataW.trod enc Try.prog W 0 (fun _ => true) true n 29 ((cs.drop 1).take (Try.prog.cellsOf 29)) = xs[1]? := hf 1 _ rfl
  rw [List.getElem?_eq_getElem (by omega), show Try.prog.cellsOf 29 = 2 from by kernel_rfl] at f1
  have f2 : DataW.trod enc Try.prog W 0 (fun _ => true) true n 31 ((cs.drop 3).take (Try.prog.cellsOf 31)) = xs[2]? := hf 2 _ rfl
  rw [List.getElem?_eq_getElem (by omega), show Try.prog.cellsOf 31 = 32 from by kernel_rfl] at f2
  have f3 : DataW.trod enc Try.prog W 0 (fun _ => true) true n 36 ((cs.drop 35).take (Try.prog.cellsOf 36)) = xs[3]? := hf 3 _ rfl
  rw [List.getElem?_eq_getElem (by omega), show Try.prog.cellsOf 36 = 1 from by kernel_rfl] at f3
  have f4 : DataW.trod enc Try.prog W 0 (fun _ => true) true n 33 ((cs.drop 36).take (Try.prog.cellsOf 33)) = xs[4]? := hf 4 _ rfl
  rw [List.getElem?_eq_getElem (by omega), show Try.prog.cellsOf 33 = 2 from by kernel_rfl] at f4
  obtain ⟨rp, e0, _, w0⟩ := DataW.trod_int Try.underlying3 f0
  obtain ⟨cl, sq, e1, w1, w1'⟩ := trod_pair Try.underlying29 rfl rfl rfl (by kernel_rfl) f1
  obtain ⟨hh, e2, w2, w2'⟩ := trod_arr Try.underlying31 Try.underlying5 (by kernel_rfl) (by kernel_rfl) f2
  obtain ⟨tm', e3, _, w3⟩ := DataW.trod_int Try.underlying36 f3
  obtain ⟨tm, rfl, w3'⟩ := u64_nat w3
  obtain ⟨sb, mr, e4, w4, w4'⟩ := trod_pair Try.underlying33 rfl rfl rfl (by kernel_rfl) f4
  have hcs := segs_all cs [1, 2, 32, 1, 2] 0 (by simpa using hl)
  simp only [List.drop_zero, segs, List.flatten_cons, List.flatten_nil, List.append_nil, Nat.zero_add, Nat.reduceAdd, e0, e1, e2, e3, e4] at hcs
  (try rw [List.drop_zero] at e0)
  (try simp only [e0] at hcs)
  exact ⟨⟨rp, cl, sq, hh, tm, sb, mr⟩, by rw [hcs]; rfl, ⟨bounds_i64 w0, w1, w1', ⟨w2', w2⟩, w3', w4, w4'⟩⟩
theorem reads_vt : Reads VtR 55 := by
  intro H enc W fuel cs x h
  obtain ⟨xs, n, _, -, hl, hn, hf⟩ := DataW.trod_struct Try.underlying55 h
  rw [show Try.prog.cellsOf 55 = 38 from by kernel_rfl] at hl
  have hxs : xs.length = 6 := hn
  have f0 : DataW.trod enc Try.prog W 0 (fun _ => true) true n 3 ((cs.drop 0).take (Try.prog.cellsOf 3)) = xs[0]? := hf 0 _ rfl
  rw [List.getElem?_eq_getElem (by omega), show Try.prog.cellsOf 3 = 1 from by kernel_rfl] at f0
  have f1 : DataW.trod enc Try.prog W 0 (fun _ => true) true n 3 ((cs.drop 1).take (Try.prog.cellsOf 3)) = xs[1]? := hf 1 _ rfl
  rw [List.getElem?_eq_getElem (by omega), show Try.prog.cellsOf 3 = 1 from by kernel_rfl] at f1
  have f2 : DataW.trod enc Try.prog W 0 (fun _ => true) true n 3 ((cs.drop 2).take (Try.prog.cellsOf 3)) = xs[2]? := hf 2 _ rfl
  rw [List.getElem?_eq_getElem (by omega), show Try.prog.cellsOf 3 = 1 from by kernel_rfl] at f2
  have f3 : DataW.trod enc Try.prog W 0 (fun _ => true) true n 3 ((cs.drop 3).take (Try.prog.cellsOf 3)) = xs[3]? := hf 3 _ rfl
  rw [List.getElem?_eq_getElem (by omega), show Try.prog.cellsOf 3 = 1 from by kernel_rfl] at f3
  have f4 : DataW.trod enc Try.prog W 0 (fun _ => true) true n 31 ((cs.drop 4).take (Try.prog.cellsOf 31)) = xs[4]? := hf 4 _ rfl
  rw [List.getElem?_eq_getElem (by omega), show Try.prog.cellsOf 31 = 32 from by kernel_rfl] at f4
  have f5 : DataW.trod enc Try.prog W 0 (fun _ => true) true n 33 ((cs.drop 36).take (Try.prog.cellsOf 33)) = xs[5]? := hf 5 _ rfl
  rw [List.getElem?_eq_getElem (by omega), show Try.prog.cellsOf 33 = 2 from by kernel_rfl] at f5
  obtain ⟨kd, e0, _, w0⟩ := DataW.trod_int Try.underlying3 f0
  obtain ⟨ep, e1, _, w1⟩ := DataW.trod_int Try.underlying3 f1
  obtain ⟨rn, e2, _, w2⟩ := DataW.trod_int Try.underlying3 f2
  obtain ⟨rp, e3, _, w3⟩ := DataW.trod_int Try.underlying3 f3
  obtain ⟨hh, e4, w4, w4'⟩ := trod_arr Try.underlying31 Try.underlying5 (by kernel_rfl) (by kernel_rfl) f4
  obtain ⟨sb, mr, e5, w5, w5'⟩ := trod_pair Try.underlying33 rfl rfl rfl (by kernel_rfl) f5
  have hcs := segs_all cs [1, 1, 1, 1, 32, 2] 0 (by simpa using hl)
  simp only [List.drop_zero, segs, List.flatten_cons, List.flatten_nil, List.append_nil, Nat.zero_add, Nat.reduceAdd, e0, e1, e2, e3, e4, e5] at hcs
  (try rw [List.drop_zero] at e0)
  (try simp only [e0] at hcs)
  exact ⟨⟨kd, ep, rn, rp, hh, sb, mr⟩, by rw [hcs]; rfl, ⟨bounds_i64 w0, bounds_i64 w1, bounds_i64 w2, bounds_i64 w3, ⟨w4', w4⟩, w5, w5'⟩⟩
theorem reads_dn : Reads DnR 62 := by
  intro H enc W fuel cs x h
  obtain ⟨xs, n, _, -, hl, hn, hf⟩ := DataW.trod_struct Try.underlying62 h
  rw [show Try.prog.cellsOf 62 = 4 from by kernel_rfl] at hl
  have hxs : xs.length = 3 := hn
  have f0 : DataW.trod enc Try.prog W 0 (fun _ => true) true n 3 ((cs.drop 0).take (Try.prog.cellsOf 3)) = xs[0]? := hf 0 _ rfl
  rw [List.getElem?_eq_getElem (by omega), show Try.prog.cellsOf 3 = 1 from by kernel_rfl] at f0
  have f1 : DataW.trod enc Try.prog W 0 (fun _ => true) true n 3 ((cs.drop 1).take (Try.prog.cellsOf 3)) = xs[1]? := hf 1 _ rfl
  rw [List.getElem?_eq_getElem (by omega), show Try.prog.cellsOf 3 = 1 from by kernel_rfl] at f1
  have f2 : DataW.trod enc Try.prog W 0 (fun _ => true) true n 33 ((cs.drop 2).take (Try.prog.cellsOf 33)) = xs[2]? := hf 2 _ rfl
  rw [List.getElem?_eq_getElem (by omega), show Try.prog.cellsOf 33 = 2 from by kernel_rfl] at f2
  obtain ⟨rp, e0, _, w0⟩ := DataW.trod_int Try.underlying3 f0
  obtain ⟨ix, e1, _, w1⟩ := DataW.trod_int Try.underlying3 f1
  obtain ⟨sb, mr, e2, w2, w2'⟩ := trod_pair Try.underlying33 rfl rfl rfl (by kernel_rfl) f2
  have hcs := segs_all cs [1, 1, 2] 0 (by simpa using hl)
  simp only [List.drop_zero, segs, List.flatten_cons, List.flatten_nil, List.append_nil, Nat.zero_add, Nat.reduceAdd, e0, e1, e2] at hcs
  (try rw [List.drop_zero] at e0)
  (try simp only [e0] at hcs)
  exact ⟨⟨rp, ix, sb, mr⟩, by rw [hcs]; rfl, ⟨bounds_i64 w0, bounds_i64 w1, w2, w2'⟩⟩
theorem reads_ce : Reads CeR 41 := by
  intro H enc W fuel cs x h
  obtain ⟨xs, n, _, -, hl, hn, hf⟩ := DataW.trod_struct Try.underlying41 h
  rw [show Try.prog.cellsOf 41 = 38 from by kernel_rfl] at hl
  have hxs : xs.length = 2 := hn
  have f0 : DataW.trod enc Try.prog W 0 (fun _ => true) true n 35 ((cs.drop 0).take (Try.prog.cellsOf 35)) = xs[0]? := hf 0 _ rfl
  rw [List.getElem?_eq_getElem (by omega), show Try.prog.cellsOf 35 = 37 from by kernel_rfl] at f0
  have f1 : DataW.trod enc Try.prog W 0 (fun _ => true) true n 39 ((cs.drop 37).take (Try.prog.cellsOf 39)) = xs[1]? := hf 1 _ rfl
  rw [List.getElem?_eq_getElem (by omega), show Try.prog.cellsOf 39 = 1 from by kernel_rfl] at f1
  obtain ⟨c, e0, w0⟩ := reads_cm _ _ _ _ _ _ f0
  obtain ⟨v, e1⟩ := seg_one (cs := cs) (off := 37) (by omega)
  rw [e1] at f1
  obtain ⟨l, w1⟩ := trod_slice reads_st Try.underlying39 (by kernel_rfl) f1
  have hcs := segs_all cs [37, 1] 0 (by simpa using hl)
  simp only [List.drop_zero, segs, List.flatten_cons, List.flatten_nil, List.append_nil, Nat.zero_add, Nat.reduceAdd, e0, e1] at hcs
  (try rw [List.drop_zero] at e0)
  (try simp only [e0] at hcs)
  exact ⟨⟨c, l⟩, v, hcs, w0, w1⟩
theorem reads_pm : Reads PmR 46 := by
  intro H enc W fuel cs x h
  obtain ⟨xs, n, _, -, hl, hn, hf⟩ := DataW.trod_struct Try.underlying46 h
  rw [show Try.prog.cellsOf 46 = 6 from by kernel_rfl] at hl
  have hxs : xs.length = 5 := hn
  have f0 : DataW.trod enc Try.prog W 0 (fun _ => true) true n 3 ((cs.drop 0).take (Try.prog.cellsOf 3)) = xs[0]? := hf 0 _ rfl
  rw [List.getElem?_eq_getElem (by omega), show Try.prog.cellsOf 3 = 1 from by kernel_rfl] at f0
  have f1 : DataW.trod enc Try.prog W 0 (fun _ => true) true n 3 ((cs.drop 1).take (Try.prog.cellsOf 3)) = xs[1]? := hf 1 _ rfl
  rw [List.getElem?_eq_getElem (by omega), show Try.prog.cellsOf 3 = 1 from by kernel_rfl] at f1
  have f2 : DataW.trod enc Try.prog W 0 (fun _ => true) true n 36 ((cs.drop 2).take (Try.prog.cellsOf 36)) = xs[2]? := hf 2 _ rfl
  rw [List.getElem?_eq_getElem (by omega), show Try.prog.cellsOf 36 = 1 from by kernel_rfl] at f2
  have f3 : DataW.trod enc Try.prog W 0 (fun _ => true) true n 44 ((cs.drop 3).take (Try.prog.cellsOf 44)) = xs[3]? := hf 3 _ rfl
  rw [List.getElem?_eq_getElem (by omega), show Try.prog.cellsOf 44 = 1 from by kernel_rfl] at f3
  have f4 : DataW.trod enc Try.prog W 0 (fun _ => true) true n 33 ((cs.drop 4).take (Try.prog.cellsOf 33)) = xs[4]? := hf 4 _ rfl
  rw [List.getElem?_eq_getElem (by omega), show Try.prog.cellsOf 33 = 2 from by kernel_rfl] at f4
  obtain ⟨rp, e0, _, w0⟩ := DataW.trod_int Try.underlying3 f0
  obtain ⟨ep, e1, _, w1⟩ := DataW.trod_int Try.underlying3 f1
  obtain ⟨fl', e2, _, w2⟩ := DataW.trod_int Try.underlying36 f2
  obtain ⟨fl, rfl, w2'⟩ := u64_nat w2
  obtain ⟨v, e3⟩ := seg_one (cs := cs) (off := 3) (by omega)
  rw [e3] at f3
  obtain ⟨l, w3⟩ := trod_slice reads_ce Try.underlying44 (by kernel_rfl) f3
  obtain ⟨sb, mr, e4, w4, w4'⟩ := trod_pair Try.underlying33 rfl rfl rfl (by kernel_rfl) f4
  have hcs := segs_all cs [1, 1, 1, 1, 2] 0 (by simpa using hl)
  simp only [List.drop_zero, segs, List.flatten_cons, List.flatten_nil, List.append_nil, Nat.zero_add, Nat.reduceAdd, e0, e1, e2, e3, e4] at hcs
  (try rw [List.drop_zero] at e0)
  (try simp only [e0] at hcs)
  exact ⟨⟨rp, ep, fl, l, sb, mr⟩, v, hcs, ⟨bounds_i64 w0, bounds_i64 w1, w2', w4, w4'⟩, w3⟩
theorem reads_op : Reads OpR 60 := by
  intro H enc W fuel cs x h
  obtain ⟨xs, n, _, -, hl, hn, hf⟩ := DataW.trod_struct Try.underlying60 h
  rw [show Try.prog.cellsOf 60 = 34 from by kernel_rfl] at hl
  have hxs : xs.length = 3 := hn
  have f0 : DataW.trod enc Try.prog W 0 (fun _ => true) true n 3 ((cs.drop 0).take (Try.prog.cellsOf 3)) = xs[0]? := hf 0 _ rfl
  rw [List.getElem?_eq_getElem (by omega), show Try.prog.cellsOf 3 = 1 from by kernel_rfl] at f0
  have f1 : DataW.trod enc Try.prog W 0 (fun _ => true) true n 58 ((cs.drop 1).take (Try.prog.cellsOf 58)) = xs[1]? := hf 1 _ rfl
  rw [List.getElem?_eq_getElem (by omega), show Try.prog.cellsOf 58 = 1 from by kernel_rfl] at f1
  have f2 : DataW.trod enc Try.prog W 0 (fun _ => true) true n 31 ((cs.drop 2).take (Try.prog.cellsOf 31)) = xs[2]? := hf 2 _ rfl
  rw [List.getElem?_eq_getElem (by omega), show Try.prog.cellsOf 31 = 32 from by kernel_rfl] at f2
  obtain ⟨ix, e0, _, w0⟩ := DataW.trod_int Try.underlying3 f0
  obtain ⟨v, e1⟩ := seg_one (cs := cs) (off := 1) (by omega)
  rw [e1] at f1
  obtain ⟨pl, w1⟩ := trod_bytes f1
  obtain ⟨hh, e2, w2, w2'⟩ := trod_arr Try.underlying31 Try.underlying5 (by kernel_rfl) (by kernel_rfl) f2
  have hcs := segs_all cs [1, 1, 32] 0 (by simpa using hl)
  simp only [List.drop_zero, segs, List.flatten_cons, List.flatten_nil, List.append_nil, Nat.zero_add, Nat.reduceAdd, e0, e1, e2] at hcs
  (try rw [List.drop_zero] at e0)
  (try simp only [e0] at hcs)
  exact ⟨⟨ix, pl, hh⟩, v, hcs, ⟨bounds_i64 w0, w2', w2⟩, w1⟩
theorem reads_tb : Reads TbR 121 := by
  intro H enc W fuel cs x h
  obtain ⟨xs, n, _, -, hl, hn, hf⟩ := DataW.trod_struct Try.underlying121 h
  rw [show Try.prog.cellsOf 121 = 2 from by kernel_rfl] at hl
  have hxs : xs.length = 2 := hn
  have f0 : DataW.trod enc Try.prog W 0 (fun _ => true) true n 3 ((cs.drop 0).take (Try.prog.cellsOf 3)) = xs[0]? := hf 0 _ rfl
  rw [List.getElem?_eq_getElem (by omega), show Try.prog.cellsOf 3 = 1 from by kernel_rfl] at f0
  have f1 : DataW.trod enc Try.prog W 0 (fun _ => true) true n 119 ((cs.drop 1).take (Try.prog.cellsOf 119)) = xs[1]? := hf 1 _ rfl
  rw [List.getElem?_eq_getElem (by omega), show Try.prog.cellsOf 119 = 1 from by kernel_rfl] at f1
  obtain ⟨ix, e0, _, w0⟩ := DataW.trod_int Try.underlying3 f0
  obtain ⟨v, e1⟩ := seg_one (cs := cs) (off := 1) (by omega)
  rw [e1] at f1
  obtain ⟨l, w1⟩ := trod_slice reads_dn Try.underlying119 (by kernel_rfl) f1
  have hcs := segs_all cs [1, 1] 0 (by simpa using hl)
  simp only [List.drop_zero, segs, List.flatten_cons, List.flatten_nil, List.append_nil, Nat.zero_add, Nat.reduceAdd, e0, e1] at hcs
  (try rw [List.drop_zero] at e0)
  (try simp only [e0] at hcs)
  exact ⟨⟨ix, l⟩, v, hcs, bounds_i64 w0, w1⟩
theorem reads_ba : Reads BaR 51 := by
  intro H enc W fuel cs x h
  obtain ⟨xs, n, _, -, hl, hn, hf⟩ := DataW.trod_struct Try.underlying51 h
  rw [show Try.prog.cellsOf 51 = 5 from by kernel_rfl] at hl
  have hxs : xs.length = 5 := hn
  have f0 : DataW.trod enc Try.prog W 0 (fun _ => true) true n 3 ((cs.drop 0).take (Try.prog.cellsOf 3)) = xs[0]? := hf 0 _ rfl
  rw [List.getElem?_eq_getElem (by omega), show Try.prog.cellsOf 3 = 1 from by kernel_rfl] at f0
  have f1 : DataW.trod enc Try.prog W 0 (fun _ => true) true n 36 ((cs.drop 1).take (Try.prog.cellsOf 36)) = xs[1]? := hf 1 _ rfl
  rw [List.getElem?_eq_getElem (by omega), show Try.prog.cellsOf 36 = 1 from by kernel_rfl] at f1
  have f2 : DataW.trod enc Try.prog W 0 (fun _ => true) true n 47 ((cs.drop 2).take (Try.prog.cellsOf 47)) = xs[2]? := hf 2 _ rfl
  rw [List.getElem?_eq_getElem (by omega), show Try.prog.cellsOf 47 = 1 from by kernel_rfl] at f2
  have f3 : DataW.trod enc Try.prog W 0 (fun _ => true) true n 48 ((cs.drop 3).take (Try.prog.cellsOf 48)) = xs[3]? := hf 3 _ rfl
  rw [List.getElem?_eq_getElem (by omega), show Try.prog.cellsOf 48 = 1 from by kernel_rfl] at f3
  have f4 : DataW.trod enc Try.prog W 0 (fun _ => true) true n 49 ((cs.drop 4).take (Try.prog.cellsOf 49)) = xs[4]? := hf 4 _ rfl
  rw [List.getElem?_eq_getElem (by omega), show Try.prog.cellsOf 49 = 1 from by kernel_rfl] at f4
  obtain ⟨ep, e0, _, w0⟩ := DataW.trod_int Try.underlying3 f0
  obtain ⟨tm', e1, _, w1⟩ := DataW.trod_int Try.underlying36 f1
  obtain ⟨tm, rfl, w1'⟩ := u64_nat w1
  obtain ⟨vp, e2⟩ := seg_one (cs := cs) (off := 2) (by omega)
  rw [e2] at f2
  obtain ⟨ps, w2⟩ := trod_slice reads_pm Try.underlying47 (by kernel_rfl) f2
  obtain ⟨vo, e3⟩ := seg_one (cs := cs) (off := 3) (by omega)
  rw [e3] at f3
  obtain ⟨os, w3⟩ := trod_slice reads_op Try.underlying48 (by kernel_rfl) f3
  obtain ⟨vt, e4⟩ := seg_one (cs := cs) (off := 4) (by omega)
  rw [e4] at f4
  obtain ⟨ts, w4⟩ := trod_slice reads_tb Try.underlying49 (by kernel_rfl) f4
  have hcs := segs_all cs [1, 1, 1, 1, 1] 0 (by simpa using hl)
  simp only [List.drop_zero, segs, List.flatten_cons, List.flatten_nil, List.append_nil, Nat.zero_add, Nat.reduceAdd, e0, e1, e2, e3, e4] at hcs
  (try rw [List.drop_zero] at e0)
  (try simp only [e0] at hcs)
  exact ⟨⟨ep, tm, ps, os, ts⟩, vp, vo, vt, hcs, ⟨bounds_i64 w0, w1'⟩, w2, w3, w4⟩
end Go.Proofs.Ytekbmpjdombedaa

/- Proposals as arguments. -/
namespace Go.Proofs.Ytekbmpjdombedaa
open Go Go.RowKit Go.Gv Go.ChangeShapes Go.WideShapes Go.ChangeAt Go.Deep

theorem reads_pr : Reads PrR 53 := by
 intro H enc W fuel cs x h
 obtain ⟨xs, n, _, -, hl, hn, hf⟩ := DataW.trod_struct Try.underlying53 h
 rw [show Try.prog.cellsOf 53 = 11 from by kernel_rfl] at hl
 have hxs : xs.length = 6 := hn
 have f0 : DataW.trod enc Try.prog W 0 (fun _ => true) true n 3 ((cs.drop 0).take (Try.prog.cellsOf 3)) = xs[0]? := hf 0 _ rfl
 rw [List.getElem?_eq_getElem (by omega), show Try.prog.cellsOf 3 = 1 from by kernel_rfl] at f0
 have f1 : DataW.trod enc Try.prog W 0 (fun _ => true) true n 3 ((cs.drop 1).take (Try.prog.cellsOf 3)) = xs[1]? := hf 1 _ rfl
 rw [List.getElem?_eq_getElem (by omega), show Try.prog.cellsOf 3 = 1 from by kernel_rfl] at f1
 have f2 : DataW.trod enc Try.prog W 0 (fun _ => true) true n 3 ((cs.drop 2).take (Try.prog.cellsOf 3)) = xs[2]? := hf 2 _ rfl
 rw [List.getElem?_eq_getElem (by omega), show Try.prog.cellsOf 3 = 1 from by kernel_rfl] at f2
 have f3 : DataW.trod enc Try.prog W 0 (fun _ => true) true n 3 ((cs.drop 3).take (Try.prog.cellsOf 3)) = xs[3]? := hf 3 _ rfl
 rw [List.getElem?_eq_getElem (by omega), show Try.prog.cellsOf 3 = 1 from by kernel_rfl] at f3
 have f4 : DataW.trod enc Try.prog W 0 (fun _ => true) true n 51 ((cs.drop 4).take (Try.prog.cellsOf 51)) = xs[4]? := hf 4 _ rfl
 rw [List.getElem?_eq_getElem (by omega), show Try.prog.cellsOf 51 = 5 from by kernel_rfl] at f4
 have f5 : DataW.trod enc Try.prog W 0 (fun _ => true) true n 33 ((cs.drop 9).take (Try.prog.cellsOf 33)) = xs[5]? := hf 5 _ rfl
 rw [List.getElem?_eq_getElem (by omega), show Try.prog.cellsOf 33 = 2 from by kernel_rfl] at f5
 obtain ⟨ep, e0, _, w0⟩ := DataW.trod_int Try.underlying3 f0
 obtain ⟨rn, e1, _, w1⟩ := DataW.trod_int Try.underlying3 f1
 obtain ⟨vl, e2, _, w2⟩ := DataW.trod_int Try.underlying3 f2
 obtain ⟨rp, e3, _, w3⟩ := DataW.trod_int Try.underlying3 f3
 obtain ⟨ba, w4⟩ := reads_ba _ _ _ _ _ _ f4
 obtain ⟨vp, vo, vt, e4, w4, w4'⟩ := w4
 obtain ⟨sb, mr, e5, w5, w5'⟩ := trod_pair Try.underlying33 rfl rfl rfl (by kernel_rfl) f5
 have hcs := segs_all cs [1, 1, 1, 1, 5, 2] 0 (by simpa using hl)
 simp only [List.drop_zero, segs, List.flatten_cons, List.flatten_nil, List.append_nil, Nat.zero_add, Nat.reduceAdd, e0, e1, e2, e3, e4, e5] at hcs
 (try rw [List.drop_zero] at e0)
 (try simp only [e0] at hcs)
 exact ⟨⟨ep, rn, vl, rp, ba, sb, mr⟩, vp, vo, vt, hcs, ⟨bounds_i64 w0, bounds_i64 w1, bounds_i64 w2, bounds_i64 w3, w4, w5, w5'⟩, w4'⟩
end Go.Proofs.Ytekbmpjdombedaa

/- Messages as arguments. -/
namespace Go.Proofs.Ytekbmpjdombedaa
open Go Go.RowKit Go.Gv Go.ChangeShapes Go.WideShapes Go.ChangeAt Go.Deep

theorem reads_dc : Reads DcR 65 := by
 intro H enc W fuel cs x h
 obtain ⟨xs, n, _, -, hl, hn, hf⟩ := DataW.trod_struct Try.underlying65 h
 rw [show Try.prog.cellsOf 65 = 8 from by kernel_rfl] at hl
 have hxs : xs.length = 4 := hn
 have f0 : DataW.trod enc Try.prog W 0 (fun _ => true) true n 3 ((cs.drop 0).take (Try.prog.cellsOf 3)) = xs[0]? := hf 0 _ rfl
 rw [List.getElem?_eq_getElem (by omega), show Try.prog.cellsOf 3 = 1 from by kernel_rfl] at f0
 have f1 : DataW.trod enc Try.prog W 0 (fun _ => true) true n 3 ((cs.drop 1).take (Try.prog.cellsOf 3)) = xs[1]? := hf 1 _ rfl
 rw [List.getElem?_eq_getElem (by omega), show Try.prog.cellsOf 3 = 1 from by kernel_rfl] at f1
 have f2 : DataW.trod enc Try.prog W 0 (fun _ => true) true n 51 ((cs.drop 2).take (Try.prog.cellsOf 51)) = xs[2]? := hf 2 _ rfl
 rw [List.getElem?_eq_getElem (by omega), show Try.prog.cellsOf 51 = 5 from by kernel_rfl] at f2
 have f3 : DataW.trod enc Try.prog W 0 (fun _ => true) true n 63 ((cs.drop 7).take (Try.prog.cellsOf 63)) = xs[3]? := hf 3 _ rfl
 rw [List.getElem?_eq_getElem (by omega), show Try.prog.cellsOf 63 = 1 from by kernel_rfl] at f3
 obtain ⟨ep, e0, _, w0⟩ := DataW.trod_int Try.underlying3 f0
 obtain ⟨rn, e1, _, w1⟩ := DataW.trod_int Try.underlying3 f1
 obtain ⟨ba, w2⟩ := reads_ba _ _ _ _ _ _ f2
 obtain ⟨vp, vo, vt, e2, w2, w2'⟩ := w2
 obtain ⟨vl, e3⟩ := seg_one (cs := cs) (off := 7) (by omega)
 rw [e3] at f3
 obtain ⟨l, w3⟩ := trod_slice reads_vt Try.underlying63 (by kernel_rfl) f3
 have hcs := segs_all cs [1, 1, 5, 1] 0 (by simpa using hl)
 simp only [List.drop_zero, segs, List.flatten_cons, List.flatten_nil, List.append_nil, Nat.zero_add, Nat.reduceAdd, e0, e1, e2, e3] at hcs
 (try rw [List.drop_zero] at e0)
 (try simp only [e0] at hcs)
 exact ⟨⟨ep, rn, ba, l⟩, vp, vo, vt, vl, hcs, ⟨bounds_i64 w0, bounds_i64 w1, w2⟩, w2'.1, w2'.2.1, w2'.2.2, w3⟩
theorem reads_en : Reads EnR 57 := by
 intro H enc W fuel cs x h
 obtain ⟨xs, n, _, -, hl, hn, hf⟩ := DataW.trod_struct Try.underlying57 h
 rw [show Try.prog.cellsOf 57 = 35 from by kernel_rfl] at hl
 have hxs : xs.length = 3 := hn
 have f0 : DataW.trod enc Try.prog W 0 (fun _ => true) true n 29 ((cs.drop 0).take (Try.prog.cellsOf 29)) = xs[0]? := hf 0 _ rfl
 rw [List.getElem?_eq_getElem (by omega), show Try.prog.cellsOf 29 = 2 from by kernel_rfl] at f0
 have f1 : DataW.trod enc Try.prog W 0 (fun _ => true) true n 31 ((cs.drop 2).take (Try.prog.cellsOf 31)) = xs[1]? := hf 1 _ rfl
 rw [List.getElem?_eq_getElem (by omega), show Try.prog.cellsOf 31 = 32 from by kernel_rfl] at f1
 have f2 : DataW.trod enc Try.prog W 0 (fun _ => true) true n 36 ((cs.drop 34).take (Try.prog.cellsOf 36)) = xs[2]? := hf 2 _ rfl
 rw [List.getElem?_eq_getElem (by omega), show Try.prog.cellsOf 36 = 1 from by kernel_rfl] at f2
 obtain ⟨cl, sq, e0, w0, w0'⟩ := trod_pair Try.underlying29 rfl rfl rfl (by kernel_rfl) f0
 obtain ⟨hh, e1, w1, w1'⟩ := trod_arr Try.underlying31 Try.underlying5 (by kernel_rfl) (by kernel_rfl) f1
 obtain ⟨tm', e2, _, w2⟩ := DataW.trod_int Try.underlying36 f2
 obtain ⟨tm, rfl, w2'⟩ := u64_nat w2
 have hcs := segs_all cs [2, 32, 1] 0 (by simpa using hl)
 simp only [List.drop_zero, segs, List.flatten_cons, List.flatten_nil, List.append_nil, Nat.zero_add, Nat.reduceAdd, e0, e1, e2] at hcs
 (try rw [List.drop_zero] at e0)
 (try simp only [e0] at hcs)
 exact ⟨⟨cl, sq, hh, tm⟩, (by first | exact hcs | (rw [hcs]; rfl)), ⟨w0, w0', ⟨w1', w1⟩, w2'⟩⟩
theorem trod_str1 {H : Type} {enc : TypeId × Value → H} {W : World} {n : Nat} {cs : List Value} {x : DataW H × List MemPlace} (h : DataW.trod enc Try.prog W 0 (fun _ => true) true n 9 cs = some x) : ∃ s : ByteArray, cs = [.string s] := by
 obtain ⟨s, hc, _, _⟩ := DataW.trod_string Try.underlying9 h
 exact ⟨s, hc⟩
theorem reads_mg : Reads MgR 67 := by
 intro H enc W fuel cs x h
 obtain ⟨xs, n, _, -, hl, hn, hf⟩ := DataW.trod_struct Try.underlying67 h
 rw [show Try.prog.cellsOf 67 = 295 from by kernel_rfl] at hl
 have hxs : xs.length = 19 := hn
 have f0 : DataW.trod enc Try.prog W 0 (fun _ => true) true n 3 ((cs.drop 0).take (Try.prog.cellsOf 3)) = xs[0]? := hf 0 _ rfl
 rw [List.getElem?_eq_getElem (by omega), show Try.prog.cellsOf 3 = 1 from by kernel_rfl] at f0
 have f1 : DataW.trod enc Try.prog W 0 (fun _ => true) true n 3 ((cs.drop 1).take (Try.prog.cellsOf 3)) = xs[1]? := hf 1 _ rfl
 rw [List.getElem?_eq_getElem (by omega), show Try.prog.cellsOf 3 = 1 from by kernel_rfl] at f1
 have f2 : DataW.trod enc Try.prog W 0 (fun _ => true) true n 3 ((cs.drop 2).take (Try.prog.cellsOf 3)) = xs[2]? := hf 2 _ rfl
 rw [List.getElem?_eq_getElem (by omega), show Try.prog.cellsOf 3 = 1 from by kernel_rfl] at f2
 have f3 : DataW.trod enc Try.prog W 0 (fun _ => true) true n 35 ((cs.drop 3).take (Try.prog.cellsOf 35)) = xs[3]? := hf 3 _ rfl
 rw [List.getElem?_eq_getElem (by omega), show Try.prog.cellsOf 35 = 37 from by kernel_rfl] at f3
 have f4 : DataW.trod enc Try.prog W 0 (fun _ => true) true n 38 ((cs.drop 40).take (Try.prog.cellsOf 38)) = xs[4]? := hf 4 _ rfl
 rw [List.getElem?_eq_getElem (by omega), show Try.prog.cellsOf 38 = 38 from by kernel_rfl] at f4
 have f5 : DataW.trod enc Try.prog W 0 (fun _ => true) true n 41 ((cs.drop 78).take (Try.prog.cellsOf 41)) = xs[5]? := hf 5 _ rfl
 rw [List.getElem?_eq_getElem (by omega), show Try.prog.cellsOf 41 = 38 from by kernel_rfl] at f5
 have f6 : DataW.trod enc Try.prog W 0 (fun _ => true) true n 43 ((cs.drop 116).take (Try.prog.cellsOf 43)) = xs[6]? := hf 6 _ rfl
 rw [List.getElem?_eq_getElem (by omega), show Try.prog.cellsOf 43 = 38 from by kernel_rfl] at f6
 have f7 : DataW.trod enc Try.prog W 0 (fun _ => true) true n 3 ((cs.drop 154).take (Try.prog.cellsOf 3)) = xs[7]? := hf 7 _ rfl
 rw [List.getElem?_eq_getElem (by omega), show Try.prog.cellsOf 3 = 1 from by kernel_rfl] at f7
 have f8 : DataW.trod enc Try.prog W 0 (fun _ => true) true n 3 ((cs.drop 155).take (Try.prog.cellsOf 3)) = xs[8]? := hf 8 _ rfl
 rw [List.getElem?_eq_getElem (by omega), show Try.prog.cellsOf 3 = 1 from by kernel_rfl] at f8
 have f9 : DataW.trod enc Try.prog W 0 (fun _ => true) true n 36 ((cs.drop 156).take (Try.prog.cellsOf 36)) = xs[9]? := hf 9 _ rfl
 rw [List.getElem?_eq_getElem (by omega), show Try.prog.cellsOf 36 = 1 from by kernel_rfl] at f9
 have f10 : DataW.trod enc Try.prog W 0 (fun _ => true) true n 46 ((cs.drop 157).take (Try.prog.cellsOf 46)) = xs[10]? := hf 10 _ rfl
 rw [List.getElem?_eq_getElem (by omega), show Try.prog.cellsOf 46 = 6 from by kernel_rfl] at f10
 have f11 : DataW.trod enc Try.prog W 0 (fun _ => true) true n 53 ((cs.drop 163).take (Try.prog.cellsOf 53)) = xs[11]? := hf 11 _ rfl
 rw [List.getElem?_eq_getElem (by omega), show Try.prog.cellsOf 53 = 11 from by kernel_rfl] at f11
 have f12 : DataW.trod enc Try.prog W 0 (fun _ => true) true n 55 ((cs.drop 174).take (Try.prog.cellsOf 55)) = xs[12]? := hf 12 _ rfl
 rw [List.getElem?_eq_getElem (by omega), show Try.prog.cellsOf 55 = 38 from by kernel_rfl] at f12
 have f13 : DataW.trod enc Try.prog W 0 (fun _ => true) true n 3 ((cs.drop 212).take (Try.prog.cellsOf 3)) = xs[13]? := hf 13 _ rfl
 rw [List.getElem?_eq_getElem (by omega), show Try.prog.cellsOf 3 = 1 from by kernel_rfl] at f13
 have f14 : DataW.trod enc Try.prog W 0 (fun _ => true) true n 57 ((cs.drop 213).take (Try.prog.cellsOf 57)) = xs[14]? := hf 14 _ rfl
 rw [List.getElem?_eq_getElem (by omega), show Try.prog.cellsOf 57 = 35 from by kernel_rfl] at f14
 have f15 : DataW.trod enc Try.prog W 0 (fun _ => true) true n 60 ((cs.drop 248).take (Try.prog.cellsOf 60)) = xs[15]? := hf 15 _ rfl
 rw [List.getElem?_eq_getElem (by omega), show Try.prog.cellsOf 60 = 34 from by kernel_rfl] at f15
 have f16 : DataW.trod enc Try.prog W 0 (fun _ => true) true n 62 ((cs.drop 282).take (Try.prog.cellsOf 62)) = xs[16]? := hf 16 _ rfl
 rw [List.getElem?_eq_getElem (by omega), show Try.prog.cellsOf 62 = 4 from by kernel_rfl] at f16
 have f17 : DataW.trod enc Try.prog W 0 (fun _ => true) true n 9 ((cs.drop 286).take (Try.prog.cellsOf 9)) = xs[17]? := hf 17 _ rfl
 rw [List.getElem?_eq_getElem (by omega), show Try.prog.cellsOf 9 = 1 from by kernel_rfl] at f17
 have f18 : DataW.trod enc Try.prog W 0 (fun _ => true) true n 65 ((cs.drop 287).take (Try.prog.cellsOf 65)) = xs[18]? := hf 18 _ rfl
 rw [List.getElem?_eq_getElem (by omega), show Try.prog.cellsOf 65 = 8 from by kernel_rfl] at f18
 obtain ⟨kd, e0, _, w0⟩ := DataW.trod_int Try.underlying3 f0
 obtain ⟨fr, e1, _, w1⟩ := DataW.trod_int Try.underlying3 f1
 obtain ⟨to_, e2, _, w2⟩ := DataW.trod_int Try.underlying3 f2
 obtain ⟨cm, e3, w3⟩ := reads_cm _ _ _ _ _ _ f3
 obtain ⟨st, e4, w4⟩ := reads_st _ _ _ _ _ _ f4
 obtain ⟨ce, w5⟩ := reads_ce _ _ _ _ _ _ f5
 obtain ⟨ak, e6, w6⟩ := reads_ak _ _ _ _ _ _ f6
 obtain ⟨ep, e7, _, w7⟩ := DataW.trod_int Try.underlying3 f7
 obtain ⟨rn, e8, _, w8⟩ := DataW.trod_int Try.underlying3 f8
 obtain ⟨tm', e9, _, w9⟩ := DataW.trod_int Try.underlying36 f9
 obtain ⟨tm, rfl, w9'⟩ := u64_nat w9
 obtain ⟨pm, w10⟩ := reads_pm _ _ _ _ _ _ f10
 obtain ⟨pr, w11⟩ := reads_pr _ _ _ _ _ _ f11
 obtain ⟨vt, e12, w12⟩ := reads_vt _ _ _ _ _ _ f12
 obtain ⟨ix, e13, _, w13⟩ := DataW.trod_int Try.underlying3 f13
 obtain ⟨en, e14, w14⟩ := reads_en _ _ _ _ _ _ f14
 obtain ⟨op, w15⟩ := reads_op _ _ _ _ _ _ f15
 obtain ⟨dn, e16, w16⟩ := reads_dn _ _ _ _ _ _ f16
 obtain ⟨rp, e17⟩ := trod_str1 f17
 obtain ⟨dc, w18⟩ := reads_dc _ _ _ _ _ _ f18
 have hcs := segs_all cs [1, 1, 1, 37, 38, 38, 38, 1, 1, 1, 6, 11, 38, 1, 35, 34, 4, 1, 8] 0 (by simpa using hl)
 simp only [List.drop_zero, segs, Nat.zero_add, Nat.reduceAdd, e1, e2, e3, e4, e6, e7, e8, e9, e12, e13, e14, e16, e17] at hcs
 (try rw [List.drop_zero] at e0)
 (try simp only [e0] at hcs)
 exact ⟨⟨kd, fr, to_, cm, st, ce, ak, ep, rn, tm, pm, pr, vt, ix, en, op, dn, rp, dc⟩, (cs.drop 78).take 38, (cs.drop 157).take 6, (cs.drop 163).take 11, (cs.drop 248).take 34, (cs.drop 287).take 8, hcs, ⟨bounds_i64 w0, bounds_i64 w1, bounds_i64 w2, w3, w4, w6, bounds_i64 w7, bounds_i64 w8, w9', w12, bounds_i64 w13, w14, w16⟩, w5, w10, w11, w15, w18⟩
end Go.Proofs.Ytekbmpjdombedaa

/- Calls of a play as arguments; the document's messages, opened. -/
namespace Go.Proofs.Ytekbmpjdombedaa
open Go Go.RowKit Go.Gv Go.ChangeShapes Go.WideShapes Go.ChangeAt Go.Deep
theorem reads_an : Reads AnR 97 := by
  intro H enc W fuel cs x h
  obtain ⟨xs, n, _, rfl, hl, hn, hf⟩ := DataW.trod_struct Try.underlying97 h
  rw [show Try.prog.cellsOf 97 = 3 from by kernel_rfl] at hl
  have f0 : DataW.trod enc Try.prog W 0 (fun _ => true) true n 3 ((cs.drop 0).take (Try.prog.cellsOf 3)) = xs[0]? := hf 0 _ rfl
  have f1 : DataW.trod enc Try.prog W 0 (fun _ => true) true n 3 ((cs.drop 1).take (Try.prog.cellsOf 3)) = xs[1]? := hf 1 _ rfl
  have f3 : DataW.trod enc Try.prog W 0 (fun _ => true) true n 76 ((cs.drop 2).take (Try.prog.cellsOf 76)) = xs[2]? := hf 2 _ rfl
  have hxs : xs.length = 3 := hn
  rw [List.getElem?_eq_getElem (by omega)] at f0 f1 f3
  rw [show Try.prog.cellsOf 3 = 1 from by kernel_rfl] at f0 f1
  rw [show Try.prog.cellsOf 76 = 1 from by kernel_rfl] at f3
  match cs, hl with
  | [c0, c1, c2], _ =>
    simp only [List.drop_zero, List.drop_succ_cons, List.take_succ_cons, List.take_zero] at f0 f1 f3
    obtain ⟨q0, e0, _, w0⟩ := DataW.trod_int Try.underlying3 f0
    obtain ⟨q1, e1, _, w1⟩ := DataW.trod_int Try.underlying3 f1
    obtain ⟨l, hl⟩ := trod_slice reads_mg Try.underlying76 (by kernel_rfl) f3
    cases e0; cases e1
    exact ⟨⟨q0, q1, l⟩, c2, rfl, bounds_i64 w0, bounds_i64 w1, hl⟩
theorem slice_arg {α : Type} {A : Rep α} {t e : TypeId} (hr : Reads A e) (ht : Try.prog.underlying t = some (.slice e)) (hce : Try.prog.cellsOf e = A.sz) {H : Type} {enc : TypeId × Value → H} {W : World} {v : Value} {d : DataW H} {p : List MemPlace}
    (h : DataW.Trod enc Try.prog W 0 (fun _ => true) true t v d p) {base : Nat} (hv : Value.okWide Try.prog W .any base t v) : ∃ l : List α, RdS A (fun k => k < W.heap.size) W v l := by
  obtain ⟨a0, len0, cap0, rfl⟩ := okWide_slice ht hv
  obtain ⟨fuel, hf⟩ := h
  exact trod_slice hr ht hce hf
section
variable {O T R : Nat → Prop} {w : World} {x : Nat} {mo sn lo : Int} {l : List Mg}
theorem RnS.cellO (h : RnS O T w x mo l sn lo) : ∃ ao cap, Cs w x #[.int .i64 mo, .int .i64 sn, .int .i64 lo, .slice ao l.length cap] 82 ∧ OwS MgR 67 O T w (.slice ao l.length cap) l := by
  obtain ⟨E, v, h1, h2, h3, h4⟩ := h
  obtain ⟨ao, cap, rfl⟩ := h1.ow.shape
  exact ⟨ao, cap, h1.cs, h1.ow.widen (fun k hk => h3 k hk) h4⟩
theorem RnS.made {v : Value} (hc : Cs w x #[.int .i64 mo, .int .i64 sn, .int .i64 lo, v] 82) (ho : OwS MgR 67 R T w v l) (hb : ∀ k, T k → k < w.heap.size) (hx : ¬ T x) (hR : ¬ R x) : RnS (fun k => k = x ∨ R k) T w x mo l sn lo :=
  ⟨T, v, ⟨hc, hb, hx, fun h => hR (ho.blk _ h), ho.own⟩, .inl rfl, fun k hk => .inr (ho.blk _ hk), fun _ h => h⟩
end
end Go.Proofs.Ytekbmpjdombedaa

/- NetPlays: the walk. -/
namespace Go.Proofs.Ytekbmpjdombedaa
open Go Go.RowKit Go.Gv


/-- what a play leaves -/
structure PlI (O1 T1 O2 T2 R0 : Nat → Prop) (w w' : World) (A1 B1 A2 B2 : Nat → Prop) (mo : Int) (l : List Mg) (sn lo S : Nat) : Prop where
  hl : ((l.length : Nat) : Int) ≤ mo
  hP : ∀ m ∈ l, cpMg m
  hs : sn ≤ S
  ho : lo ≤ S
  dj : Dj A1 B1 A2 B2
  sA1 : ∀ k, A1 k → O1 k ∨ New w w' k
  sB1 : ∀ k, B1 k → T1 k ∨ New w w' k
  sA2 : ∀ k, A2 k → O2 k ∨ New w w' k
  sB2 : ∀ k, B2 k → T2 k ∨ R0 k ∨ New w w' k
theorem play_P {O1 T1 O2 T2 R0 : Nat → Prop} {w : World} {x y : Nat} {mo : Int} {l : List Mg} {sn lo S0 : Nat} {acs : List An} {va : Value} (h1 : NtS O1 T1 w x mo l ((sn : Nat) : Int) ((lo : Nat) : Int)) (h2 : RnS O2 T2 w y mo l ((sn : Nat) : Int) ((lo : Nat) : Int)) (ha : RdS AnR R0 w va acs) (hbO1 : ∀ k, O1 k → k < w.heap.size) (hbT1 : ∀ k, T1 k → k < w.heap.size)
    (hbO2 : ∀ k, O2 k → k < w.heap.size) (hbT2 : ∀ k, T2 k → k < w.heap.size) (hbR0 : ∀ k, R0 k → k < w.heap.size) (hdj : Dj O1 T1 O2 T2) (h1r : ∀ k, O1 k → R0 k → False) (h2r : ∀ k, O2 k → R0 k → False) (hmo : 1 ≤ mo ∧ mo ≤ 4096) (hl : ((l.length : Nat) : Int) ≤ mo) (hP : ∀ m ∈ l, cpMg m) (hS : S0 ≤ 100000) (hsn : sn ≤ S0) (hlo : lo ≤ S0) :
    Calls Try.prog 18 #[.pointer (some ⟨x, 0, none⟩), .pointer (some ⟨y, 0, none⟩), va] w fun e w' => ∃ (l' : List Mg) (sn' lo' : Nat) (A1 B1 A2 B2 : Nat → Prop), e = .returned (.bool true) ∧ NtS A1 B1 w' x mo l' ((sn' : Nat) : Int) ((lo' : Nat) : Int) ∧ RnS A2 B2 w' y mo l' ((sn' : Nat) : Int) ((lo' : Nat) : Int) ∧
      PlI O1 T1 O2 T2 R0 w w' A1 B1 A2 B2 mo l' sn' lo' (S0 + 120) ∧ Mod (fun k => O1 k ∨ O2 k) w w' := by
  refine (play_Q h1 h2 ha hbO1 hbT1 hbO2 hbT2 hbR0 hdj h1r h2r hmo hl hP hS hsn hlo).mono ?_
  rintro e w' ⟨he, l', sn', lo', A1, B1, A2, B2, h1, h2, h3, h4, h5, h6, h7, h8, h9, h10, h11, h12⟩
  exact ⟨l', sn', lo', A1, B1, A2, B2, he, h5, h6, ⟨h1, h2, h3, h4, h7, h8, h9, h10, h11⟩, h12⟩
theorem run_eql_nn {P : Program} {tp te : TypeId} (w : World) (hp : P.underlying tp = some (.pointer te)) (hte : (P.info? te).isSome = true) : (binOp .eql tp (.pointer none) (.pointer none)).run P w = .ok (.bool true) w := by
  obtain ⟨j, hj⟩ := Option.isSome_iff_exists.1 hte
  have h : ∀ d : Nat, (Op.equalIn (d + 1) tp (.pointer none) (.pointer none)).run P w = .ok true w := fun d => by
    simp [Op.equalIn, run_underlying hp, sizeOf, typeInfo, hj]
  simp only [binOp]
  simp [Op.equal, Op.maxDepth, h 9999]
set_option maxHeartbeats 16000000 in
theorem NetPlays_walk (e0 : Int) (l m : List An) (vl vm : Value) (w : World) (h0 : -9223372036854775808 ≤ e0 ∧ e0 ≤ 9223372036854775807) (hl : RdS AnR (fun k => k < w.heap.size) w vl l) (hm : RdS AnR (fun k => k < w.heap.size) w vm m) :
    Calls Try.prog 6 #[.int .i64 e0, vl, vm] w fun e w' => e = .returned (.bool true) ∧ Mod (fun _ => False) w w' := by
  obtain ⟨al, capl, rfl⟩ := hl.shape
  obtain ⟨am, capm, rfl⟩ := hm.shape
  have HL := Lib.hid hl
  have HM := Lib.hid hm
  clear hl hm
  go_enter Try.func6, Try.ntmps6
  go_upto_region 1 with (fail)
  have HM0 := hid (Mod.refl (fun _ => False) w)
  go_upto_region 1 with (fail)
  refine wp_region_U 94 [12, 13, 14, 15, 16, 17] [0, 1, 2, 3, 4, 5] (fun a0 HA0 => ?_)
  have oe0 := ev HA0 0 rfl
  refine QSeq.pure rfl _ (fun E => ex_move rfl (E.v oe0)) ?_
  refine QSeq.pure rfl (.bool (decide (12 < e0))) (fun E => ex_bin rfl (E.d 0 0) rfl (guard_ints _ _ _ _ _ _) (run_gtr_i _ _ _ Try.underlying3)) ?_
  refine QSeq.pure rfl _ (fun E => ex_move rfl (E.d 1 0)) ?_
  refine QSeq.may (b := (decide (12 < e0))) rfl (.int .i64 e0) (fun E => ((wanted_of rfl rfl (E.sz 14 (by decide)) (E.d 2 0)).trans (beq_t _))) (fun E hb => ex_move rfl (E.v oe0)) ?_
  intro v1_3 hw
  have hv1_3 := hid hw
  clear hw
  refine QSeq.may (b := (decide (12 < e0))) rfl (.bool (decide (e0 ≤ 4096))) (fun E => ((wanted_of rfl rfl (E.sz 14 (by decide)) (E.d 2 1)).trans (beq_t _))) (fun E hb => ex_bin rfl ((E.q 3 0 hv1_3.out).1 hb) rfl (guard_ints _ _ _ _ _ _) (run_leq_i _ _ _ Try.underlying3)) ?_
  intro v1_4 hw
  have hv1_4 := hid hw
  clear hw
  obtain ⟨pb5, hb5⟩ : ∃ b : Bool, b = ((decide (12 < e0)) && (decide (e0 ≤ 4096))) := ⟨_, rfl⟩
  have HB5 := hid hb5
  clear hb5
  refine QSeq.pure rfl (.bool pb5) (fun E => ex_pickE rfl (E.d 2 2) rfl rfl ((and_val fun hb => (E.q 4 0 hv1_4.out).1 hb).trans (congrArg Value.bool HB5.out.symm))) ?_
  clear hv1_3 hv1_4
  refine QSeq.nil (t' := [_, _, _, _, _, _]) rfl ?_
  obtain rfl := HA0.out
  clear HA0 oe0
  simp only [pz, Act.put, sIB, sCZ, sCS]
  go_upto_if 17 with (fail)
  go_cut [0] from 12 to 19 (fun t0 w' => ∃ v : Int, t0 = .int .i64 v ∧ (v ≤ 12 ∨ 4096 < v) ∧ I64 v ∧ w' = w)
  case first =>
    by_cases hA : 12 < e0 ∧ e0 ≤ 4096
    · obtain rfl : pb5 = true := HB5.out.trans (by simp only [Bool.and_eq_true, decide_eq_true_eq]; omega)
      obtain ⟨m0, hm0, hml⟩ := within_nat e0 12 (by decide)
      have HW := hid (Within_any e0 12 (by decide) (by decide) h0)
      rw [hm0] at HW
      clear hm0
      go_upto_region 2 with (fail)
      refine wp_region_U 94 [18, 19, 0] [0, 1, 2] (fun a0 HA0 => ?_)
      have oe0 := ev HA0 0 rfl
      refine QSeq.pure rfl _ (fun E => ex_move rfl (E.y 2 oe0)) ?_
      refine QSeq.go fun act E => ?_
      refine qc_callF (args := #[.int .i64 e0, .int .i64 12]) rfl (wanted_none rfl) rfl Try.func9 (args2 (E.d 0 0) rfl) (HW.out _) ?_
      rintro e w2 ⟨rfl, hw2⟩
      obtain rfl : w = w2 := by first | exact hw2 | exact hw2.symm
      refine ⟨_, rfl, ?_⟩
      clear act E
      refine QSeq.pure rfl _ (fun E => ex_assign rfl (E.d 1 0)) ?_
      refine QSeq.nil (t' := [_, _, _]) rfl ?_
      obtain rfl := HA0.out
      clear HA0 oe0
      simp only [pz, Act.put, sIB, sCZ, sCS]
      go_wp2_with fail
      go_meet
      case rel => exact ⟨_, rfl, Or.inl (by omega), (by unfold I64; omega), rfl⟩
    · obtain rfl : pb5 = false := HB5.out.trans (by rw [Bool.eq_false_iff]; intro h; simp only [Bool.and_eq_true, decide_eq_true_eq] at h; omega)
      go_wp2_with fail
      go_meet
      case rel => exact ⟨_, rfl, by omega, h0, rfl⟩
  case rest =>
    obtain ⟨v, rfl, hv, hvi, hwc⟩ := hcut
    rw [hwc]
    clear hwc h0
    unfold I64 at hvi
    by_cases hB : v < 1
    · skip
      go_upto_region 3 with (fail)
      refine wp_region_U 94 [21, 22, 20, 23, 24, 7, 8] [0, 1, 2, 3, 4, 5, 6] (fun a0 HA0 => ?_)
      have oe0 := ev HA0 0 rfl
      refine QSeq.pure rfl _ (fun E => ex_move rfl (E.v oe0)) ?_
      refine QSeq.call rfl rfl Try.func7 (NNew_lo (mo := v) (by omega) _) (fun E => args1 (E.d 0 0)) ?_
      rintro e u3_1 ⟨rfl, hm⟩
      refine ⟨_, rfl, ?_⟩
      have zu3_1 := hm.size
      have Cx1 := hid (show Mod (fun _ => False) w u3_1 from hm)
      clear hm
      refine QSeq.pure rfl _ (fun E => ex_move rfl (E.d 1 0)) ?_
      refine QSeq.pure rfl (.pointer none) (fun E => ex_extract rfl (E.d 2 0) rfl) ?_
      refine QSeq.pure rfl (.int .i64 1) (fun E => ex_extract rfl (E.d 2 1) rfl) ?_
      refine QSeq.pure rfl _ (fun E => ex_assign rfl (E.d 3 1)) ?_
      refine QSeq.pure rfl _ (fun E => ex_assign rfl (E.d 4 1)) ?_
      refine QSeq.nil (t' := [_, _, _, _, _, _, _]) rfl ?_
      obtain rfl := HA0.out
      clear HA0 oe0
      simp only [pz, Act.put, sIB, sCZ, sCS]
      go_upto_region 4 with (fail)
      refine wp_region_U 94 [25, 26, 27, 28, 29, 30] [0, 1, 2, 3, 4, 5] (fun a0 HA0 => ?_)
      have oe0 := ev HA0 0 rfl
      refine QSeq.pure rfl _ (fun E => ex_move rfl (E.v oe0)) ?_
      refine QSeq.pure rfl (.bool true) (fun E => ex_binE rfl (E.d 0 0) rfl (guard_ints _ _ _ _ _ _) (run_lss_i _ _ _ Try.underlying3) (congrArg Value.bool (decide_eq_true (by omega)))) ?_
      refine QSeq.pure rfl _ (fun E => ex_move rfl (E.d 1 0)) ?_
      refine QSeq.skip rfl (fun E => ((wanted_of rfl rfl (E.sz 27 (by decide)) (E.d 2 0)).trans rfl)) ?_
      refine QSeq.skip rfl (fun E => ((wanted_of rfl rfl (E.sz 27 (by decide)) (E.d 2 1)).trans rfl)) ?_
      refine QSeq.pure rfl (.bool true) (fun E => ex_pick rfl (E.d 2 2) rfl (E.d 4 0)) ?_
      refine QSeq.nil (t' := [_, _, _, _, _, _]) rfl ?_
      obtain rfl := HA0.out
      clear HA0 oe0
      simp only [pz, Act.put, sIB, sCZ, sCS]
      go_upto_region 5 with (fail)
      refine wp_region_U 94 [31, 32, 33, 34, 35, 36, 37, 38, 39, 6] [0, 1, 2, 3, 4, 5, 6, 7, 8, 9] (fun a0 HA0 => ?_)
      have oe7 := ev HA0 7 rfl
      have oe8 := ev HA0 8 rfl
      refine QSeq.pure rfl _ (fun E => ex_move rfl (E.v oe8)) ?_
      refine QSeq.pure rfl (.bool true) (fun E => ex_binE rfl (E.d 0 0) rfl (guard_ints _ _ _ _ _ _) (run_eql_i _ _ _ Try.underlying24) (congrArg Value.bool (show _ = true from rfl))) ?_
      refine QSeq.pure rfl _ (fun E => ex_move rfl (E.d 1 0)) ?_
      refine QSeq.pureG rfl (.pointer none) (fun E => ((wanted_of rfl rfl (E.sz 33 (by decide)) (E.d 2 0)).trans rfl)) (fun E => ex_move rfl (E.v oe7)) ?_
      refine QSeq.pureG rfl (.bool true) (fun E => ((wanted_of rfl rfl (E.sz 33 (by decide)) (E.d 2 1)).trans rfl)) (fun E => ex_binE rfl (E.d 3 0) rfl (guard_ptr _ _ _ _ _ _ _) (run_eql_nn _ Try.underlying23 (by kernel_rfl)) rfl) ?_
      refine QSeq.pure rfl (.bool true) (fun E => ex_pick rfl (E.d 2 2) (E.d 4 0) rfl) ?_
      refine QSeq.pure rfl _ (fun E => ex_move rfl (E.d 5 0)) ?_
      refine QSeq.go fun act E => ?_
      refine qc_callF (args := #[]) rfl ((wanted_of rfl rfl (E.sz 37 (by decide)) (E.d 6 0)).trans rfl) rfl Try.func13 args0 (wakes23 _) ?_
      rintro e u5_7 ⟨rfl, hm⟩
      refine ⟨_, rfl, ?_⟩
      have zu5_7 := hm.size
      have Cx2 := hid (show Mod (fun _ => False) u3_1 u5_7 from hm)
      clear hm
      clear act E
      refine QSeq.pure rfl (.bool true) (fun E => ex_pick rfl (E.d 6 1) (E.d 7 0) rfl) ?_
      refine QSeq.pure rfl _ (fun E => ex_assign rfl (E.d 8 0)) ?_
      refine QSeq.nil (t' := [_, _, _, _, _, _, _, _, _, _]) rfl ?_
      obtain rfl := HA0.out
      clear HA0 oe7 oe8
      simp only [pz, Act.put, sIB, sCZ, sCS]
      go_wp2
      go_ret
      exact ⟨rfl, ((HM0.out.trans Cx1.out (fun _ _ h => h.elim)).trans Cx2.out (fun _ _ h => h.elim))⟩
    · skip
      by_cases hC : 4096 < v
      · skip
        go_upto_region 3 with (fail)
        refine wp_region_U 94 [21, 22, 20, 23, 24, 7, 8] [0, 1, 2, 3, 4, 5, 6] (fun a0 HA0 => ?_)
        have oe0 := ev HA0 0 rfl
        refine QSeq.pure rfl _ (fun E => ex_move rfl (E.v oe0)) ?_
        refine QSeq.call rfl rfl Try.func7 (NNew_hi (mo := v) (by omega) _) (fun E => args1 (E.d 0 0)) ?_
        rintro e u3_1 ⟨rfl, hm⟩
        refine ⟨_, rfl, ?_⟩
        have zu3_1 := hm.size
        have Cx3 := hid (show Mod (fun _ => False) w u3_1 from hm)
        clear hm
        refine QSeq.pure rfl _ (fun E => ex_move rfl (E.d 1 0)) ?_
        refine QSeq.pure rfl (.pointer none) (fun E => ex_extract rfl (E.d 2 0) rfl) ?_
        refine QSeq.pure rfl (.int .i64 1) (fun E => ex_extract rfl (E.d 2 1) rfl) ?_
        refine QSeq.pure rfl _ (fun E => ex_assign rfl (E.d 3 1)) ?_
        refine QSeq.pure rfl _ (fun E => ex_assign rfl (E.d 4 1)) ?_
        refine QSeq.nil (t' := [_, _, _, _, _, _, _]) rfl ?_
        obtain rfl := HA0.out
        clear HA0 oe0
        simp only [pz, Act.put, sIB, sCZ, sCS]
        go_upto_region 4 with (fail)
        refine wp_region_U 94 [25, 26, 27, 28, 29, 30] [0, 1, 2, 3, 4, 5] (fun a0 HA0 => ?_)
        have oe0 := ev HA0 0 rfl
        refine QSeq.pure rfl _ (fun E => ex_move rfl (E.v oe0)) ?_
        refine QSeq.pure rfl (.bool false) (fun E => ex_binE rfl (E.d 0 0) rfl (guard_ints _ _ _ _ _ _) (run_lss_i _ _ _ Try.underlying3) (congrArg Value.bool (decide_eq_false (by omega)))) ?_
        refine QSeq.pure rfl _ (fun E => ex_move rfl (E.d 1 0)) ?_
        refine QSeq.pureG rfl (.int .i64 v) (fun E => ((wanted_of rfl rfl (E.sz 27 (by decide)) (E.d 2 0)).trans rfl)) (fun E => ex_move rfl (E.v oe0)) ?_
        refine QSeq.pureG rfl (.bool true) (fun E => ((wanted_of rfl rfl (E.sz 27 (by decide)) (E.d 2 1)).trans rfl)) (fun E => ex_binE rfl (E.d 3 0) rfl (guard_ints _ _ _ _ _ _) (run_gtr_i _ _ _ Try.underlying3) (congrArg Value.bool (decide_eq_true (by omega)))) ?_
        refine QSeq.pure rfl (.bool true) (fun E => ex_pick rfl (E.d 2 2) rfl (E.d 4 0)) ?_
        refine QSeq.nil (t' := [_, _, _, _, _, _]) rfl ?_
        obtain rfl := HA0.out
        clear HA0 oe0
        simp only [pz, Act.put, sIB, sCZ, sCS]
        go_upto_region 5 with (fail)
        refine wp_region_U 94 [31, 32, 33, 34, 35, 36, 37, 38, 39, 6] [0, 1, 2, 3, 4, 5, 6, 7, 8, 9] (fun a0 HA0 => ?_)
        have oe7 := ev HA0 7 rfl
        have oe8 := ev HA0 8 rfl
        refine QSeq.pure rfl _ (fun E => ex_move rfl (E.v oe8)) ?_
        refine QSeq.pure rfl (.bool true) (fun E => ex_binE rfl (E.d 0 0) rfl (guard_ints _ _ _ _ _ _) (run_eql_i _ _ _ Try.underlying24) (congrArg Value.bool (show _ = true from rfl))) ?_
        refine QSeq.pure rfl _ (fun E => ex_move rfl (E.d 1 0)) ?_
        refine QSeq.pureG rfl (.pointer none) (fun E => ((wanted_of rfl rfl (E.sz 33 (by decide)) (E.d 2 0)).trans rfl)) (fun E => ex_move rfl (E.v oe7)) ?_
        refine QSeq.pureG rfl (.bool true) (fun E => ((wanted_of rfl rfl (E.sz 33 (by decide)) (E.d 2 1)).trans rfl)) (fun E => ex_binE rfl (E.d 3 0) rfl (guard_ptr _ _ _ _ _ _ _) (run_eql_nn _ Try.underlying23 (by kernel_rfl)) rfl) ?_
        refine QSeq.pure rfl (.bool true) (fun E => ex_pick rfl (E.d 2 2) (E.d 4 0) rfl) ?_
        refine QSeq.pure rfl _ (fun E => ex_move rfl (E.d 5 0)) ?_
        refine QSeq.go fun act E => ?_
        refine qc_callF (args := #[]) rfl ((wanted_of rfl rfl (E.sz 37 (by decide)) (E.d 6 0)).trans rfl) rfl Try.func13 args0 (wakes23 _) ?_
        rintro e u5_7 ⟨rfl, hm⟩
        refine ⟨_, rfl, ?_⟩
        have zu5_7 := hm.size
        have Cx4 := hid (show Mod (fun _ => False) u3_1 u5_7 from hm)
        clear hm
        clear act E
        refine QSeq.pure rfl (.bool true) (fun E => ex_pick rfl (E.d 6 1) (E.d 7 0) rfl) ?_
        refine QSeq.pure rfl _ (fun E => ex_assign rfl (E.d 8 0)) ?_
        refine QSeq.nil (t' := [_, _, _, _, _, _, _, _, _, _]) rfl ?_
        obtain rfl := HA0.out
        clear HA0 oe7 oe8
        simp only [pz, Act.put, sIB, sCZ, sCS]
        go_wp2
        go_ret
        exact ⟨rfl, ((HM0.out.trans Cx3.out (fun _ _ h => h.elim)).trans Cx4.out (fun _ _ h => h.elim))⟩
      · obtain ⟨mo, rfl⟩ : ∃ mo : Nat, v = (mo : Int) := ⟨v.toNat, by omega⟩
        have hmo : 1 ≤ mo ∧ mo ≤ 12 := by omega
        go_upto_region 3 with (fail)
        refine wp_region_U 94 [21, 22, 20, 23, 24, 7, 8] [0, 1, 2, 3, 4, 5, 6] (fun a0 HA0 => ?_)
        have oe0 := ev HA0 0 rfl
        refine QSeq.pure rfl _ (fun E => ex_move rfl (E.v oe0)) ?_
        refine QSeq.call rfl rfl Try.func7 (NNew_Q (mo := ((mo : Nat) : Int)) (by omega) _) (fun E => args1 (E.d 0 0)) ?_
        rintro e u3_1 ⟨x, rfl, qnt, hm⟩
        refine ⟨_, rfl, ?_⟩
        have Hx5 := hid qnt
        have zu3_1 := hm.size
        have Cx6 := hid (show Mod (fun _ => False) w u3_1 from hm)
        clear hm
        clear qnt
        refine QSeq.pure rfl _ (fun E => ex_move rfl (E.d 1 0)) ?_
        refine QSeq.pure rfl (.pointer (some ⟨x, 0, none⟩)) (fun E => ex_extract rfl (E.d 2 0) rfl) ?_
        refine QSeq.pure rfl (.int .i64 0) (fun E => ex_extract rfl (E.d 2 1) rfl) ?_
        refine QSeq.pure rfl _ (fun E => ex_assign rfl (E.d 3 1)) ?_
        refine QSeq.pure rfl _ (fun E => ex_assign rfl (E.d 4 1)) ?_
        refine QSeq.nil (t' := [_, _, _, _, _, _, _]) rfl ?_
        obtain rfl := HA0.out
        clear HA0 oe0
        simp only [pz, Act.put, sIB, sCZ, sCS]
        go_upto_region 4 with (fail)
        refine wp_region_U 94 [25, 26, 27, 28, 29, 30] [0, 1, 2, 3, 4, 5] (fun a0 HA0 => ?_)
        have oe0 := ev HA0 0 rfl
        refine QSeq.pure rfl _ (fun E => ex_move rfl (E.v oe0)) ?_
        refine QSeq.pure rfl (.bool false) (fun E => ex_binE rfl (E.d 0 0) rfl (guard_ints _ _ _ _ _ _) (run_lss_i _ _ _ Try.underlying3) (congrArg Value.bool (decide_eq_false (by omega)))) ?_
        refine QSeq.pure rfl _ (fun E => ex_move rfl (E.d 1 0)) ?_
        refine QSeq.pureG rfl (.int .i64 ((mo : Nat) : Int)) (fun E => ((wanted_of rfl rfl (E.sz 27 (by decide)) (E.d 2 0)).trans rfl)) (fun E => ex_move rfl (E.v oe0)) ?_
        refine QSeq.pureG rfl (.bool false) (fun E => ((wanted_of rfl rfl (E.sz 27 (by decide)) (E.d 2 1)).trans rfl)) (fun E => ex_binE rfl (E.d 3 0) rfl (guard_ints _ _ _ _ _ _) (run_gtr_i _ _ _ Try.underlying3) (congrArg Value.bool (decide_eq_false (by omega)))) ?_
        refine QSeq.pure rfl (.bool false) (fun E => ex_pick rfl (E.d 2 2) rfl (E.d 4 0)) ?_
        refine QSeq.nil (t' := [_, _, _, _, _, _]) rfl ?_
        obtain rfl := HA0.out
        clear HA0 oe0
        simp only [pz, Act.put, sIB, sCZ, sCS]
        go_upto_region 6 with (fail)
        refine wp_region_U 94 [40, 41, 42, 9] [0, 1, 2, 3] (fun a0 HA0 => ?_)
        have oe0 := ev HA0 0 rfl
        refine QSeq.pure rfl _ (fun E => ex_move rfl (E.v oe0)) ?_
        refine QSeq.go fun act E => ?_
        refine qc_run rfl (wanted_none rfl) (v := .agg #[.int .i64 ((mo : Nat) : Int), .int .i64 0, .int .i64 0, Value.slice none 0 0]) (ex_build rfl (z := [.int .i64 0, .int .i64 0, .int .i64 0, .slice none 0 0]) (places := [(0, 1), (1, 1), (2, 1), (3, 1)]) (by kernel_rfl) (parts := [(0, .int .i64 ((mo : Nat) : Int))]) (by simp only [List.map_toArray, List.map_cons, List.map_nil, show act.eval (.tmp 40) = .int .i64 ((mo : Nat) : Int) from (E.d 0 0)]; try rfl) (r := [.int .i64 ((mo : Nat) : Int), .int .i64 0, .int .i64 0, Value.slice none 0 0]) (by rfl)) ?_
        clear act E
        refine QSeq.go fun act E => ?_
        refine qc_box rfl (wanted_none rfl) rfl (vs := [.int .i64 ((mo : Nat) : Int), .int .i64 0, .int .i64 0, Value.slice none 0 0]) (by rw [show act.eval (.tmp 41) = _ from (E.d 1 0)]; rfl) ?_
        intro u6_2 qbx hm
        have zl6_2 := qbx.lt
        have Hx7 := hid qbx
        have zu6_2 := hm.size
        have Cx8 := hid (show Mod (fun _ => False) u3_1 u6_2 from hm)
        clear hm
        clear act E qbx
        refine QSeq.pure rfl _ (fun E => ex_assign rfl (E.d 2 0)) ?_
        refine QSeq.nil (t' := [_, _, _, _]) rfl ?_
        obtain rfl := HA0.out
        clear HA0 oe0
        simp only [pz, Act.put, sIB, sCZ, sCS]
        have HNS := hid (NtR.toS (Hx5.out.mod Cx8.out (fun _ _ h => h)))
        have HRS := hid (RnS.fresh Hx7.out)
        clear Hx5
        clear Hx7
        go_upto_region 7 with (fail)
        refine wp_region_U 94 [43, 44, 45, 46, 47, 48, 49, 50, 51, 52, 53, 54, 55] [0, 1, 2, 3, 4, 5, 6, 7, 8, 9, 10, 11, 12] (fun a0 HA0 => ?_)
        have oe1 := ev HA0 1 rfl
        have oe7 := ev HA0 7 rfl
        have oe8 := ev HA0 8 rfl
        have oe9 := ev HA0 9 rfl
        refine QSeq.pure rfl _ (fun E => ex_move rfl (E.v oe8)) ?_
        refine QSeq.pure rfl (.bool false) (fun E => ex_binE rfl (E.d 0 0) rfl (guard_ints _ _ _ _ _ _) (run_neq_i _ _ _ Try.underlying24) (congrArg Value.bool (show _ = false from rfl))) ?_
        refine QSeq.pure rfl _ (fun E => ex_move rfl (E.d 1 0)) ?_
        refine QSeq.pureG rfl (.pointer (some ⟨x, 0, none⟩)) (fun E => ((wanted_of rfl rfl (E.sz 45 (by decide)) (E.d 2 0)).trans rfl)) (fun E => ex_move rfl (E.v oe7)) ?_
        refine QSeq.pureG rfl (.bool false) (fun E => ((wanted_of rfl rfl (E.sz 45 (by decide)) (E.d 2 1)).trans rfl)) (fun E => ex_bin rfl (E.d 3 0) rfl (guard_ptr _ _ _ _ _ _ _) (run_eql_nil _ Try.underlying23 (by kernel_rfl) _)) ?_
        refine QSeq.pure rfl (.bool false) (fun E => ex_pick rfl (E.d 2 2) rfl (E.d 4 0)) ?_
        refine QSeq.pure rfl _ (fun E => ex_move rfl (E.d 5 0)) ?_
        refine QSeq.pureG rfl (.pointer (some ⟨x, 0, none⟩)) (fun E => ((wanted_of rfl rfl (E.sz 49 (by decide)) (E.d 6 0)).trans rfl)) (fun E => ex_move rfl (E.v oe7)) ?_
        refine QSeq.pureG rfl (.pointer (some ⟨u3_1.heap.size, 0, none⟩)) (fun E => ((wanted_of rfl rfl (E.sz 49 (by decide)) (E.d 6 1)).trans rfl)) (fun E => ex_move rfl (E.v oe9)) ?_
        refine QSeq.pureG rfl (.slice al l.length capl) (fun E => ((wanted_of rfl rfl (E.sz 49 (by decide)) (E.d 6 2)).trans rfl)) (fun E => ex_move rfl (E.v oe1)) ?_
        refine QSeq.go fun act E => ?_
        refine qc_callF (args := #[.pointer (some ⟨x, 0, none⟩), .pointer (some ⟨u3_1.heap.size, 0, none⟩), .slice al l.length capl]) rfl ((wanted_of rfl rfl (E.sz 49 (by decide)) (E.d 6 3)).trans rfl) rfl Try.func18 (args3 (E.d 7 2) (E.d 8 1) (E.d 9 0)) (play_P (S0 := 0) (l := []) (sn := 0) (lo := 0) HNS.out HRS.out ((HL.out.mod Cx6.out (fun _ _ h => h)).mod Cx8.out (fun _ _ h => h)) (by intro k h1; first | omega) (fun _ h => h.elim) (by intro k h1; first | omega) (fun _ h => h.elim) (by intro k h1; omega) ⟨(by intro k h1 h2; omega), (fun _ _ h => h), (fun _ _ h => h)⟩ (by intro k h1 h2; omega) (by intro k h1 h2; omega) (by omega) (by simp) (fun m hm => by cases hm) (by omega) (Nat.le_refl _) (Nat.le_refl _)) ?_
        rintro e u7_10 ⟨lpp, spp, opp, A1p, B1p, A2p, B2p, rfl, qnt, qrn, hplp, hm⟩
        have HPLp := Lib.hid hplp
        have hzzp := hm.size
        have HBA1p := hid (show ∀ k, A1p k → w.heap.size ≤ k ∧ k < u7_10.heap.size from fun k hk => by have h1 := (HPLp.out.sA1 k hk); (try dsimp only at h1); rcases h1 with h1 | h1 <;> (first | exact h1.elim | omega | (unfold New at h1; omega)))
        have HBB1p := hid (show ∀ k, B1p k → k < u7_10.heap.size from fun k hk => by have h1 := (HPLp.out.sB1 k hk); (try dsimp only at h1); rcases h1 with h1 | h1 <;> (first | exact h1.elim | omega | (unfold New at h1; omega)))
        have HBA2p := hid (show ∀ k, A2p k → w.heap.size ≤ k ∧ k < u7_10.heap.size from fun k hk => by have h1 := (HPLp.out.sA2 k hk); (try dsimp only at h1); rcases h1 with h1 | h1 <;> (first | exact h1.elim | omega | (unfold New at h1; omega)))
        have HBB2p := hid (show ∀ k, B2p k → k < u7_10.heap.size from fun k hk => by have h1 := (HPLp.out.sB2 k hk); (try dsimp only at h1); rcases h1 with h1 | h1 | h1 <;> (first | exact h1.elim | omega | (unfold New at h1; omega)))
        have HDaap := hid HPLp.out.dj.aa
        have HDabp := hid HPLp.out.dj.ab
        have HDbap := hid HPLp.out.dj.ba
        have hpbp : ((lpp.length : Nat) : Int) ≤ ((mo : Nat) : Int) ∧ spp ≤ 120 ∧ opp ≤ 120 := ⟨HPLp.out.hl, HPLp.out.hs, HPLp.out.ho⟩
        refine ⟨_, rfl, ?_⟩
        have Hx9 := hid qnt
        have Hx10 := hid qrn
        have zu7_10 := hm.size
        have Cx11 := hid (show Mod (fun k => (New w u3_1 k) ∨ (k = u3_1.heap.size)) u6_2 u7_10 from hm)
        clear hm
        clear act E qnt qrn HNS HRS
        refine QSeq.pureG rfl (.bool false) (fun E => ((wanted_of rfl rfl (E.sz 49 (by decide)) (E.d 6 4)).trans rfl)) (fun E => ex_not rfl (E.d 10 0)) ?_
        refine QSeq.pure rfl (.bool false) (fun E => ex_pick rfl (E.d 6 5) rfl (E.d 11 0)) ?_
        refine QSeq.nil (t' := [_, _, _, _, _, _, _, _, _, _, _, _, _]) rfl ?_
        obtain rfl := HA0.out
        clear HA0 oe1 oe7 oe8 oe9
        simp only [pz, Act.put, sIB, sCZ, sCS]
        skip
        go_upto_region 9 with (fail)
        refine wp_region_U 94 [56, 57, 10] [0, 1, 2] (fun a0 HA0 => ?_)
        have oe7 := ev HA0 7 rfl
        refine QSeq.pure rfl _ (fun E => ex_move rfl (E.v oe7)) ?_
        refine QSeq.call rfl rfl Try.func19 (CloneS Hx9.out (by omega)) (fun E => args1 (E.d 0 0)) ?_
        rintro e u9_1 ⟨c, rfl, qnt2, hm⟩
        refine ⟨_, rfl, ?_⟩
        have Hx12 := hid (qnt2.widen (R' := (fun k => (New u7_10 u9_1 k))) (E' := (fun k => (B1p k))) (fun _ h => h) (fun _ h => h))
        have zu9_1 := hm.size
        have Cx13 := hid (show Mod (fun _ => False) u7_10 u9_1 from hm)
        clear hm
        clear qnt2
        refine QSeq.pure rfl _ (fun E => ex_assign rfl (E.d 1 0)) ?_
        refine QSeq.nil (t' := [_, _, _]) rfl ?_
        obtain rfl := HA0.out
        clear HA0 oe7
        simp only [pz, Act.put, sIB, sCZ, sCS]
        obtain ⟨aor, capr, hry, hro⟩ := ((Hx10.out.mod Cx13.out (fun _ _ h => h) (fun _ _ h => h))).cellO
        have hyl := hry.lt
        have HRY := Lib.hid hry
        have HRO := Lib.hid hro
        clear hry hro
        go_upto_region 10 with (fail)
        generalize ha0 : Act.mk _ _ = a0
        have oe9 : a0.eval (.tmp 9) = .pointer (some ⟨u3_1.heap.size, 0, none⟩) := by rw [← ha0]; rfl
        have hsz0 : a0.tmps.size = 94 := by rw [← ha0]; rfl
        have HA0 := hid ha0
        clear ha0
        refine wp_region_Q0 94 hsz0 [58, 59, 60, 61, 62, 63, 64, 65, 66, 67, 68, 69, 70, 71, 72, 73, 74, 75, 76, 11] [qi (.pointer (some ⟨u3_1.heap.size, 0, none⟩)), qi (.pointer (some ⟨u3_1.heap.size, 0, none⟩)), qi (.pointer (some ⟨u3_1.heap.size, 0, none⟩)), qi (.int .i64 ((mo : Nat) : Int)), qi (.pointer (some ⟨u3_1.heap.size, 0, none⟩)), qi (.pointer (some ⟨u3_1.heap.size, 0, none⟩)), qi (.pointer (some ⟨u3_1.heap.size, 1, none⟩)), qi (.int .i64 ((spp : Nat) : Int)), qi (.pointer (some ⟨u3_1.heap.size, 0, none⟩)), qi (.pointer (some ⟨u3_1.heap.size, 0, none⟩)), qi (.pointer (some ⟨u3_1.heap.size, 2, none⟩)), qi (.int .i64 ((opp : Nat) : Int)), qi (.pointer (some ⟨u3_1.heap.size, 0, none⟩)), qi (.pointer (some ⟨u3_1.heap.size, 0, none⟩)), qi (.pointer (some ⟨u3_1.heap.size, 3, none⟩)), qi (.slice aor lpp.length capr), qv 0, qv 1, qv 2, qv 2] ⟨qi_stable, qi_stable, qi_stable, qi_stable, qi_stable, qi_stable, qi_stable, qi_stable, qi_stable, qi_stable, qi_stable, qi_stable, qi_stable, qi_stable, qi_stable, qi_stable, qv_stable, qv_stable, qv_stable, qv_stable, trivial⟩ [16, 17, 18] ⟨?_, ?_, ?_, ?_, ?_, ?_, ?_, ?_, ?_, ?_, ?_, ?_, ?_, ?_, ?_, ?_, ?_, ?_, ?_, ?_, trivial⟩ ?_
        · exact stq (fun E => ex_move rfl (E.v oe9))
        · exact stq (fun E => ex_nil rfl (E.d 0))
        · exact stq (fun E => ex_field rfl Try.underlying82 rfl (by kernel_rfl) (E.d 1))
        · exact stq (fun E => ex_load1 rfl Try.underlying3 rfl (E.d 2) (Cs.lit1 (HRY.out.mod E.m.old (by intro h2; omega)) rfl))
        · exact stq (fun E => ex_move rfl (E.v oe9))
        · exact stq (fun E => ex_nil rfl (E.d 4))
        · exact stq (fun E => ex_field rfl Try.underlying82 rfl (by kernel_rfl) (E.d 5))
        · exact stq (fun E => ex_load1 rfl Try.underlying3 rfl (E.d 6) (Cs.lit1 (HRY.out.mod E.m.old (by intro h2; omega)) rfl))
        · exact stq (fun E => ex_move rfl (E.v oe9))
        · exact stq (fun E => ex_nil rfl (E.d 8))
        · exact stq (fun E => ex_field rfl Try.underlying82 rfl (by kernel_rfl) (E.d 9))
        · exact stq (fun E => ex_load1 rfl Try.underlying3 rfl (E.d 10) (Cs.lit1 (HRY.out.mod E.m.old (by intro h2; omega)) rfl))
        · exact stq (fun E => ex_move rfl (E.v oe9))
        · exact stq (fun E => ex_nil rfl (E.d 12))
        · exact stq (fun E => ex_field rfl Try.underlying82 rfl (by kernel_rfl) (E.d 13))
        · exact stq (fun E => ex_load1 rfl Try.underlying76 rfl (E.d 14) (Cs.lit1 (HRY.out.mod E.m.old (by intro h2; omega)) rfl))
        · exact stepq_chain rfl
        · exact stepq_chain rfl
        · exact stepq_chain rfl
        · refine stepq_env rfl rfl rfl fun _ _ _ _ _ _ _ _ _ hd _ _ => ?_
          have h18 := hd ⟨18, .data⟩ (by simp) rfl _ rfl
          exact qe_run rfl (wanted_none rfl) (ex_assign rfl rfl) QE.refl h18
        intro u10_0 hr
        have zu10_0 := hr.size
        have Cx14 := hid (hr.new (S := (fun _ => False)))
        clear hr
        refine QChain.go fun Z act E => ?_
        refine qc_appT (A := MgR) (e := 67) (E2 := (fun k => (B2p k))) rfl (wanted_none rfl) rfl (.agg (mg0C 0 0 0).toArray) 960 Try.underlying76 info_Mg (by rfl) (of_decide_eq_true (by kernel_rfl)) rfl (E.d 15) (OwS.nil MgR _ (fun _ => False) (fun _ => False) _) ((HRO.out.mod Cx14.out (fun _ _ h => h) (fun _ _ h => h)).rdT.widen (fun k h => h.1)) (fun k _ h => by cases h) (by simp only [List.nil_append, List.length_take, List.length_drop, List.length_nil]; omega) (by rw [maxLen_val]; simp only [List.nil_append, List.length_take, List.length_drop, List.length_nil]; omega) ?_
        intro ao5 cap5 u10_1a qnl hm
        have zu10_1a := hm.size
        refine ⟨hm.mono (fun _ _ h => h.elim), (fun _ => rfl), ?_⟩
        intro u10_1 hr
        have zu10_1 := hr.size
        have Hx15 := hid ((qnl.widen (R' := (fun k => (New u10_0 u10_1a k))) (E' := (fun k => (B2p k))) (fun _ h => h.elim (fun h => h.elim) (fun h => h)) (by intro k h; (try simp only [false_or, or_self] at h); (try dsimp only at h ⊢); first | exact h | exact h.elim id id | (rcases h with h | h <;> first | exact h.elim | exact h))).mod hr (by intro k h1 h2; omega) (by intro k h1 h2; have hb := HBB2p.out k h1; omega))
        have Cx16 := hid (Cx14.out.go hm hr)
        clear Cx14 hm hr Z act E qnl
        refine QChain.go fun Z act E => ?_
        refine qc_run rfl (wanted_none rfl) (ex_build rfl (z := [.int .i64 0, .int .i64 0, .int .i64 0, .slice none 0 0]) (places := [(0, 1), (1, 1), (2, 1), (3, 1)]) (by kernel_rfl) (parts := [(0, .int .i64 ((mo : Nat) : Int)), (1, .int .i64 ((spp : Nat) : Int)), (2, .int .i64 ((opp : Nat) : Int)), (3, .slice ao5 (([] : List Mg).length + lpp.length) cap5)]) (by simp only [List.map_toArray, List.map_cons, List.map_nil, show act.eval (.tmp 61) = _ from (E.d 3), show act.eval (.tmp 65) = _ from (E.d 7), show act.eval (.tmp 69) = _ from (E.d 11), show act.eval (.tmp 74) = _ from (chv (v := .slice ao5 (([] : List Mg).length + lpp.length) cap5) (E.d 16))]; try rfl) (r := [.int .i64 ((mo : Nat) : Int), .int .i64 ((spp : Nat) : Int), .int .i64 ((opp : Nat) : Int), Value.slice ao5 (([] : List Mg).length + lpp.length) cap5]) (by rfl)) ⟨Mod.refl _ _, (fun _ => rfl), ?_⟩
        intro u10_2 hr
        have zu10_2 := hr.size
        have Hx17 := hid (Hx15.out.mod hr (by intro k h1 h2; omega) (by intro k h1 h2; have hb := HBB2p.out k h1; omega))
        clear Hx15
        have Cx18 := hid (Cx16.out.goR hr)
        clear Cx16 hr Z act E
        refine QChain.go fun Z act E => ?_
        refine qc_box rfl (wanted_none rfl) rfl (vs := [.int .i64 ((mo : Nat) : Int), .int .i64 ((spp : Nat) : Int), .int .i64 ((opp : Nat) : Int), Value.slice ao5 (([] : List Mg).length + lpp.length) cap5]) (by rw [show act.eval (.tmp 75) = _ from (chv (v := .agg #[.int .i64 ((mo : Nat) : Int), .int .i64 ((spp : Nat) : Int), .int .i64 ((opp : Nat) : Int), Value.slice ao5 (([] : List Mg).length + lpp.length) cap5]) (E.d 17))]; rfl) ?_
        intro u10_3a qbs hm
        have zlb := qbs.lt
        have zu10_3a := hm.size
        refine ⟨hm.mono (fun _ _ h => h.elim), (fun _ => rfl), ?_⟩
        intro u10_3 hr
        have zu10_3 := hr.size
        have Hx19 := hid (qbs.mod hr (by intro h2; omega))
        have hmr := Mod.after hm hr
        have Hx20 := hid (Hx17.out.mod hmr (by intro k h1 h2; omega) (by intro k h1 h2; have hb := HBB2p.out k h1; omega))
        clear Hx17
        clear hmr
        have Cx21 := hid (Cx18.out.go hm hr)
        clear Cx18 hm hr Z act E qbs
        refine QChain.nil fun vs hl hzz hrows hne => ?_
        obtain ⟨Z, hYZ, hZb, hV⟩ := hzz
        have f0 := fvi hV hl 0
        have f4 := fvi hV hl 4
        have f8 := fvi hV hl 8
        have f12 := fvi hV hl 12
        have f16 := fvc hV hl 16
        have f17 := fvc hV hl 17
        have f18 := fvc hV hl 18
        have f19 := fvc hV hl 19
        rw [show vs = [gw vs 0, gw vs 1, gw vs 2, gw vs 3, gw vs 4, gw vs 5, gw vs 6, gw vs 7, gw vs 8, gw vs 9, gw vs 10, gw vs 11, gw vs 12, gw vs 13, gw vs 14, gw vs 15, gw vs 16, gw vs 17, gw vs 18, gw vs 19] from (gw_eta hl).trans rfl]
        have ha0 := HA0.out
        subst ha0
        clear HA0 hV hYZ hZb hsz0 hrows hne oe9
        simp only [putAll, Act.put, sIB, sCZ, sCS, f0, f4, f8, f12, f16, f17, f18, f19]
        clear hl f0 f4 f8 f12 f16 f17 f18 f19
        clear HRY
        clear HRO
        have hq := Hx20.out
        rw [List.nil_append] at hq
        have HRS2 := hid (RnS.made (T := B2p) Hx19.out hq (by intro k h1; have hb := HBB2p.out k h1; omega) (by intro h1; have hb := HBB2p.out _ h1; omega) (by intro h1; (try dsimp only at h1); omega))
        clear hq
        clear Hx20
        clear Hx19
        go_upto_region 11 with (fail)
        refine wp_region_U 94 [77, 78, 79, 80, 81, 82, 83, 84, 85, 86, 87, 88, 89, 90, 91, 92, 93, 6] [0, 1, 2, 3, 4, 5, 6, 7, 8, 9, 10, 11, 12, 13, 14, 15, 16, 17] (fun a0 HA0 => ?_)
        have oe1 := ev HA0 1 rfl
        have oe2 := ev HA0 2 rfl
        have oe7 := ev HA0 7 rfl
        have oe9 := ev HA0 9 rfl
        have oe10 := ev HA0 10 rfl
        have oe11 := ev HA0 11 rfl
        refine QSeq.pure rfl _ (fun E => ex_move rfl (E.v oe10)) ?_
        refine QSeq.pure rfl (.bool true) (fun E => ex_bin rfl (E.d 0 0) rfl (guard_ptr _ _ _ _ _ _ _) (run_neq_nil _ Try.underlying23 (by kernel_rfl) _)) ?_
        refine QSeq.pure rfl _ (fun E => ex_move rfl (E.d 1 0)) ?_
        refine QSeq.pureG rfl (.pointer (some ⟨c, 0, none⟩)) (fun E => ((wanted_of rfl rfl (E.sz 79 (by decide)) (E.d 2 0)).trans rfl)) (fun E => ex_move rfl (E.v oe10)) ?_
        refine QSeq.pureG rfl (.pointer (some ⟨u10_2.heap.size, 0, none⟩)) (fun E => ((wanted_of rfl rfl (E.sz 79 (by decide)) (E.d 2 1)).trans rfl)) (fun E => ex_move rfl (E.v oe11)) ?_
        refine QSeq.pureG rfl (.slice am m.length capm) (fun E => ((wanted_of rfl rfl (E.sz 79 (by decide)) (E.d 2 2)).trans rfl)) (fun E => ex_move rfl (E.v oe2)) ?_
        refine QSeq.go fun act E => ?_
        refine qc_callF (args := #[.pointer (some ⟨c, 0, none⟩), .pointer (some ⟨u10_2.heap.size, 0, none⟩), .slice am m.length capm]) rfl ((wanted_of rfl rfl (E.sz 79 (by decide)) (E.d 2 3)).trans rfl) rfl Try.func18 (args3 (E.d 3 2) (E.d 4 1) (E.d 5 0)) (play_P (S0 := 120) (l := lpp) (sn := spp) (lo := opp) (Hx12.out.mod Cx21.out (fun _ _ h => h) (fun _ _ h => h)) HRS2.out (((((HM.out.mod Cx6.out (fun _ _ h => h)).mod Cx8.out (fun _ _ h => h)).mod Cx11.out (by intro k h1 h2; omega)).mod Cx13.out (fun _ _ h => h)).mod Cx21.out (fun _ _ h => h)) (by intro k h1; first | omega) (by intro k h1; first | omega | (have hb := HBB1p.out k h1; omega)) (by intro k h1; rcases h1 with h1 | h1 <;> first | omega) (by intro k h1; first | omega | (have hb := HBB2p.out k h1; omega)) (by intro k h1; omega) ⟨(by intro k h1 h2; omega), (by intro k h1 h2; have hb := HBB2p.out k h2; omega), (by intro k h1 h2; have hb := HBB1p.out k h2; omega)⟩ (by intro k h1 h2; omega) (by intro k h1 h2; omega) (by omega) HPLp.out.hl HPLp.out.hP (by omega) (by have := hpbp; omega) (by have := hpbp; omega)) ?_
        rintro e u11_6 ⟨lpq, spq, opq, A1q, B1q, A2q, B2q, rfl, qnt2, qrn2, hplq, hm⟩
        have HPLq := Lib.hid hplq
        have hzzq := hm.size
        have HBA1q := hid (show ∀ k, A1q k → w.heap.size ≤ k ∧ k < u11_6.heap.size from fun k hk => by have h1 := (HPLq.out.sA1 k hk); (try dsimp only at h1); rcases h1 with h1 | h1 <;> (first | exact h1.elim | omega | (unfold New at h1; omega)))
        have HBB1q := hid (show ∀ k, B1q k → k < u11_6.heap.size from fun k hk => by have h1 := (HPLq.out.sB1 k hk); (try dsimp only at h1); rcases h1 with h1 | h1 <;> (first | exact h1.elim | omega | (unfold New at h1; omega) | (have hb := HBB1p.out k h1; omega)))
        have HBA2q := hid (show ∀ k, A2q k → w.heap.size ≤ k ∧ k < u11_6.heap.size from fun k hk => by have h1 := (HPLq.out.sA2 k hk); (try dsimp only at h1); rcases h1 with (h1 | h1) | h1 <;> (first | exact h1.elim | omega | (unfold New at h1; omega)))
        have HBB2q := hid (show ∀ k, B2q k → k < u11_6.heap.size from fun k hk => by have h1 := (HPLq.out.sB2 k hk); (try dsimp only at h1); rcases h1 with h1 | h1 | h1 <;> (first | exact h1.elim | omega | (unfold New at h1; omega) | (have hb := HBB2p.out k h1; omega)))
        have HDaaq := hid HPLq.out.dj.aa
        have HDabq := hid HPLq.out.dj.ab
        have HDbaq := hid HPLq.out.dj.ba
        have hpbq : ((lpq.length : Nat) : Int) ≤ ((mo : Nat) : Int) ∧ spq ≤ 240 ∧ opq ≤ 240 := ⟨HPLq.out.hl, HPLq.out.hs, HPLq.out.ho⟩
        refine ⟨_, rfl, ?_⟩
        have Hx22 := hid qnt2
        have Hx23 := hid qrn2
        have zu11_6 := hm.size
        have Cx24 := hid (show Mod (fun k => (New u7_10 u9_1 k) ∨ (k = u10_2.heap.size) ∨ (New u10_0 u10_1a k)) u10_3 u11_6 from hm)
        clear hm
        clear act E qnt2 qrn2 Hx12 HRS2
        clear Hx22
        clear Hx23
        refine QSeq.pure rfl (.bool true) (fun E => ex_pick rfl (E.d 2 4) (E.d 6 0) rfl) ?_
        refine QSeq.pure rfl _ (fun E => ex_move rfl (E.d 7 0)) ?_
        refine QSeq.pureG rfl (.pointer (some ⟨x, 0, none⟩)) (fun E => ((wanted_of rfl rfl (E.sz 85 (by decide)) (E.d 8 0)).trans rfl)) (fun E => ex_move rfl (E.v oe7)) ?_
        refine QSeq.pureG rfl (.pointer (some ⟨u3_1.heap.size, 0, none⟩)) (fun E => ((wanted_of rfl rfl (E.sz 85 (by decide)) (E.d 8 1)).trans rfl)) (fun E => ex_move rfl (E.v oe9)) ?_
        refine QSeq.pureG rfl (.slice al l.length capl) (fun E => ((wanted_of rfl rfl (E.sz 85 (by decide)) (E.d 8 2)).trans rfl)) (fun E => ex_move rfl (E.v oe1)) ?_
        refine QSeq.go fun act E => ?_
        refine qc_callF (args := #[.pointer (some ⟨x, 0, none⟩), .pointer (some ⟨u3_1.heap.size, 0, none⟩), .slice al l.length capl]) rfl ((wanted_of rfl rfl (E.sz 85 (by decide)) (E.d 8 3)).trans rfl) rfl Try.func18 (args3 (E.d 9 2) (E.d 10 1) (E.d 11 0)) (play_P (S0 := 120) (l := lpp) (sn := spp) (lo := opp) (((Hx9.out.mod Cx13.out (fun _ _ h => h) (fun _ _ h => h)).mod Cx21.out (fun _ _ h => h) (fun _ _ h => h)).mod Cx24.out (by intro k h1 h2; have hb := HBA1p.out k h1; omega) (by intro k h1 h2; have hb := HBB1p.out k h1; omega)) (((Hx10.out.mod Cx13.out (fun _ _ h => h) (fun _ _ h => h)).mod Cx21.out (fun _ _ h => h) (fun _ _ h => h)).mod Cx24.out (by intro k h1 h2; have hb := HBA2p.out k h1; omega) (by intro k h1 h2; have hb := HBB2p.out k h1; omega)) ((((((HL.out.mod Cx6.out (fun _ _ h => h)).mod Cx8.out (fun _ _ h => h)).mod Cx11.out (by intro k h1 h2; omega)).mod Cx13.out (fun _ _ h => h)).mod Cx21.out (fun _ _ h => h)).mod Cx24.out (by intro k h1 h2; omega)) (by intro k h1; first | omega | (have hb := HBA1p.out k h1; omega)) (by intro k h1; first | omega | (have hb := HBB1p.out k h1; omega)) (by intro k h1; first | omega | (have hb := HBA2p.out k h1; omega)) (by intro k h1; first | omega | (have hb := HBB2p.out k h1; omega)) (by intro k h1; omega) ⟨(by intro k h1 h2; first | omega | (have hb := HBA1p.out k h1; omega) | (have hb := HBA2p.out k h2; omega) | exact HDaap.out k h1 h2 | exact HDaap.out k h2 h1 | exact HDabp.out k h1 h2 | exact HDabp.out k h2 h1 | exact HDbap.out k h1 h2 | exact HDbap.out k h2 h1 | exact HDaaq.out k h1 h2 | exact HDaaq.out k h2 h1 | exact HDabq.out k h1 h2 | exact HDabq.out k h2 h1 | exact HDbaq.out k h1 h2 | exact HDbaq.out k h2 h1 | (have hb := HBA1p.out k h1; have hb2 := HBA2p.out k h2; omega)), (by intro k h1 h2; first | omega | (have hb := HBA1p.out k h1; omega) | (have hb := HBB2p.out k h2; omega) | exact HDaap.out k h1 h2 | exact HDaap.out k h2 h1 | exact HDabp.out k h1 h2 | exact HDabp.out k h2 h1 | exact HDbap.out k h1 h2 | exact HDbap.out k h2 h1 | exact HDaaq.out k h1 h2 | exact HDaaq.out k h2 h1 | exact HDabq.out k h1 h2 | exact HDabq.out k h2 h1 | exact HDbaq.out k h1 h2 | exact HDbaq.out k h2 h1 | (have hb := HBA1p.out k h1; have hb2 := HBB2p.out k h2; omega)), (by intro k h1 h2; first | omega | (have hb := HBA2p.out k h1; omega) | (have hb := HBB1p.out k h2; omega) | exact HDaap.out k h1 h2 | exact HDaap.out k h2 h1 | exact HDabp.out k h1 h2 | exact HDabp.out k h2 h1 | exact HDbap.out k h1 h2 | exact HDbap.out k h2 h1 | exact HDaaq.out k h1 h2 | exact HDaaq.out k h2 h1 | exact HDabq.out k h1 h2 | exact HDabq.out k h2 h1 | exact HDbaq.out k h1 h2 | exact HDbaq.out k h2 h1 | (have hb := HBA2p.out k h1; have hb2 := HBB1p.out k h2; omega))⟩ (by intro k h1 h2; have hb := HBA1p.out k h1; omega) (by intro k h1 h2; have hb := HBA2p.out k h1; omega) (by omega) HPLp.out.hl HPLp.out.hP (by omega) (by have := hpbp; omega) (by have := hpbp; omega)) ?_
        rintro e u11_12 ⟨lpr, spr, opr, A1r, B1r, A2r, B2r, rfl, qnt, qrn, hplr, hm⟩
        have HPLr := Lib.hid hplr
        have hzzr := hm.size
        have HBA1r := hid (show ∀ k, A1r k → w.heap.size ≤ k ∧ k < u11_12.heap.size from fun k hk => by have h1 := (HPLr.out.sA1 k hk); (try dsimp only at h1); rcases h1 with h1 | h1 <;> (first | exact h1.elim | omega | (unfold New at h1; omega) | (have hb := HBA1p.out k h1; omega)))
        have HBB1r := hid (show ∀ k, B1r k → k < u11_12.heap.size from fun k hk => by have h1 := (HPLr.out.sB1 k hk); (try dsimp only at h1); rcases h1 with h1 | h1 <;> (first | exact h1.elim | omega | (unfold New at h1; omega) | (have hb := HBB1p.out k h1; omega)))
        have HBA2r := hid (show ∀ k, A2r k → w.heap.size ≤ k ∧ k < u11_12.heap.size from fun k hk => by have h1 := (HPLr.out.sA2 k hk); (try dsimp only at h1); rcases h1 with h1 | h1 <;> (first | exact h1.elim | omega | (unfold New at h1; omega) | (have hb := HBA2p.out k h1; omega)))
        have HBB2r := hid (show ∀ k, B2r k → k < u11_12.heap.size from fun k hk => by have h1 := (HPLr.out.sB2 k hk); (try dsimp only at h1); rcases h1 with h1 | h1 | h1 <;> (first | exact h1.elim | omega | (unfold New at h1; omega) | (have hb := HBB2p.out k h1; omega)))
        have HDaar := hid HPLr.out.dj.aa
        have HDabr := hid HPLr.out.dj.ab
        have HDbar := hid HPLr.out.dj.ba
        have hpbr : ((lpr.length : Nat) : Int) ≤ ((mo : Nat) : Int) ∧ spr ≤ 240 ∧ opr ≤ 240 := ⟨HPLr.out.hl, HPLr.out.hs, HPLr.out.ho⟩
        refine ⟨_, rfl, ?_⟩
        have Hx25 := hid qnt
        have Hx26 := hid qrn
        have zu11_12 := hm.size
        have HMu11_12 := hid hm
        have Cx27 := hid (Mod.goS (S' := (fun k => (New u7_10 u9_1 k) ∨ (k = u10_2.heap.size) ∨ (New u10_0 u10_1a k) ∨ (A1p k) ∨ (A2p k))) Cx24.out hm (by intro k h; rcases h with h | h | h; exact Or.inl h; exact Or.inr (Or.inl h); exact Or.inr (Or.inr (Or.inl h))) (by intro k h0 h2; rcases h2 with h2 | h2; exact Or.inr (Or.inr (Or.inr (Or.inl h2))); exact Or.inr (Or.inr (Or.inr (Or.inr (h2))))))
        clear hm Cx24
        clear act E qnt qrn Hx9 Hx10
        refine QSeq.pure rfl (.bool true) (fun E => ex_pick rfl (E.d 8 4) (E.d 12 0) rfl) ?_
        refine QSeq.pure rfl _ (fun E => ex_move rfl (E.d 13 0)) ?_
        refine QSeq.go fun act E => ?_
        refine qc_callF (args := #[]) rfl ((wanted_of rfl rfl (E.sz 91 (by decide)) (E.d 14 0)).trans rfl) rfl Try.func13 args0 (wakes23 _) ?_
        rintro e u11_15 ⟨rfl, hm⟩
        refine ⟨_, rfl, ?_⟩
        have zu11_15 := hm.size
        have HMu11_15 := hid hm
        have Cx28 := hid (Cx27.out.goE hm)
        clear hm Cx27
        clear act E
        refine QSeq.pure rfl (.bool true) (fun E => ex_pick rfl (E.d 14 1) (E.d 15 0) rfl) ?_
        refine QSeq.pure rfl _ (fun E => ex_assign rfl (E.d 16 0)) ?_
        have Hx29 := hid (Hx25.out.mod HMu11_15.out (fun _ _ h => h) (fun _ _ h => h))
        have Hx30 := hid (Hx26.out.mod HMu11_15.out (fun _ _ h => h) (fun _ _ h => h))
        clear Hx25 Hx26 HMu11_12 HMu11_15
        refine QSeq.nil (t' := [_, _, _, _, _, _, _, _, _, _, _, _, _, _, _, _, _, _]) rfl ?_
        obtain rfl := HA0.out
        clear HA0 oe1 oe2 oe7 oe9 oe10 oe11
        simp only [pz, Act.put, sIB, sCZ, sCS]
        go_wp2
        go_ret
        exact ⟨rfl, ((((((HM0.out.trans Cx6.out (fun _ _ h => h.elim)).trans Cx8.out (fun _ _ h => h.elim)).trans Cx11.out (by intro k h1 h2; omega)).trans Cx13.out (fun _ _ h => h.elim)).trans Cx21.out (fun _ _ h => h.elim)).trans Cx28.out (by intro k h1 h2; rcases h2 with h2 | h2 | h2 | h2 | h2 <;> first | exact h2 | omega | (have hb := HBA1p.out k h2; omega) | (have hb := HBA2p.out k h2; omega)))⟩
end Go.Proofs.Ytekbmpjdombedaa

namespace Go.Proofs.Ytekbmpjdombedaa.netPlays
open Go Go.RowKit Go.Gv Go.ChangeShapes Go.WideShapes Go.ChangeAt
open Go.ChangeMaps (open_string shut_string)

theorem own : ownKnob Try.prog.godebug = none := by kernel_rfl
theorem laidOut : laidOutB Try.prog = true := by kernel_rfl

theorem lifted (os : Os) (started : os.Started) (H : Type) (enc : TypeId × Value → H) :
    ReturnsInHanded {} Try.checked os 6 .any (Rows.netPlaysSpec.pre6 enc Try.prog Try.f6 Rows.netPlaysRow.domain false) (Rows.netPlaysSpec.post enc Try.prog Try.f6 false true false false) := by
  refine returnsInHanded_of_change (C := Try.checked) own started (by kernel_rfl) Try.func6
    (ChangeSpec.witness6 (enc := enc) (C := Try.checked) false ⟨#[], #[.int .i64 0, .slice none 0 0, .slice none 0 0], []⟩ 8 (by kernel_rfl) (by kernel_rfl) (by kernel_rfl) (by kernel_rfl)) ?_
  intro W base args ds gs before hval0 hW hcnd _
  have hval : ∀ (j : Nat) t v, Try.f6.params[j]? = some t → args[j]? = some v → Value.okWide Try.prog W .any base t v := hval0
  have hW' := hW
  obtain ⟨p, q, hA0, hV, rfl, hfz, hnd⟩ := hW
  have hA : DataW.TrodAll enc Try.prog W 0 (fun _ => true) true Try.f6.params.toList args.toList ds p := hA0
  rw [Try.params6] at hA hval
  obtain ⟨v0, vs0, d0, ds0, p0, q0, hargs, rfl, rfl, h0, r0⟩ := trodAll_cons hA
  obtain ⟨v1, vs1, d1, ds1, p1, q1, rfl, rfl, rfl, h1, r1⟩ := trodAll_cons r0
  obtain ⟨v2, vs2, d2, ds2, p2, q2, rfl, rfl, rfl, h2, r2⟩ := trodAll_cons r1
  obtain ⟨rfl, rfl, rfl⟩ := trodAll_nil r2
  obtain rfl : args = #[v0, v1, v2] := by cases args; simp_all
  obtain ⟨rfl, rfl⟩ := trodVars_none hV
  have k0 := h0
  have lt0 : ∀ x ∈ p0, x.block < W.heap.size := by obtain ⟨m, hm⟩ := k0; exact DataW.trod_lt m _ _ _ hm
  have k1 := h1
  have lt1 : ∀ x ∈ p1, x.block < W.heap.size := by obtain ⟨m, hm⟩ := k1; exact DataW.trod_lt m _ _ _ hm
  have k2 := h2
  have lt2 : ∀ x ∈ p2, x.block < W.heap.size := by obtain ⟨m, hm⟩ := k2; exact DataW.trod_lt m _ _ _ hm
  obtain ⟨a0, rfl, rfl, rfl, w0⟩ := open_int Try.underlying3 (hval 0 3 v0 rfl rfl) h0
  obtain ⟨l1, e1⟩ := slice_arg reads_an Try.underlying79 (by kernel_rfl) k1 (hval 1 79 v1 rfl rfl)
  obtain ⟨l2, e2⟩ := slice_arg reads_an Try.underlying79 (by kernel_rfl) k2 (hval 2 79 v2 rfl rfl)
  clear hA0 hval0
  refine (NetPlays_walk a0 l1 l2 v1 v2 W (i64_bd w0) e1 e2).mono fun e W' ⟨he, hmod⟩ => ?_
  subst he
  have bel : Below W.heap.size W W' := hmod.below (Nat.le_refl _) (fun _ _ => id)
  exact ⟨_, rfl, _, _, _, [], _, [], hW', trodAll_mk1 (shut_bool Try.underlying4 _), (trodAll_cons_mk (Below.trod laidOut (by kernel_rfl) (of_decide_eq_true (by kernel_rfl)) k0 bel lt0) (trodAll_cons_mk (Below.trod laidOut (by kernel_rfl) (of_decide_eq_true (by kernel_rfl)) k1 bel lt1) (trodAll_cons_mk (Below.trod laidOut (by kernel_rfl) (of_decide_eq_true (by kernel_rfl)) k2 bel lt2) trodAll_mk0))), rfl, bel.frame _, fun h => by cases h⟩

theorem over : Rows.netPlaysRow.holds Try.pinned (OpenSpec.ofChange Rows.netPlaysSpec) :=
  OpenClaim.holds_of_wide 6 Try.f6 rfl rfl rfl rfl rfl rfl rfl ⟨rfl, rfl, rfl, rfl, rfl⟩ rfl rfl rfl rfl rfl (by kernel_rfl) Try.func6 (by kernel_rfl)
    (of_decide_eq_true (by kernel_rfl)) (by unfold Func.isWrapper; first | (rw [if_pos (by decide +kernel)]; kernel_rfl) | (rw [if_neg (by decide +kernel)]; exact ⟨rfl, rfl⟩))
    (fun os started H enc _ => lifted os started H enc)

theorem proved : Rows.NetPlaysSaid := over
end Go.Proofs.Ytekbmpjdombedaa.netPlays
