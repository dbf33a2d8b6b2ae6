/- gavellaw01.Act: a call, as an argument holds it. -/
import Derived.Test.YtceojplopbjokaaFits
set_option maxRecDepth 100000
set_option linter.unusedVariables false
namespace Go.Proofs.Ytceojplopbjokaa
open Go Go.RowKit Go.Gv Go.ChangeShapes Go.WideShapes Go.ChangeAt Go.Deep

structure Act01 where
  Do : Int
  N : Int
  U : Nat
  VB : Value
  B : List Int
  H : List Int
instance : Inhabited Act01 := ⟨⟨0, 0, 0, .slice none 0 0, [], List.replicate 32 0⟩⟩
def Act01.tail (a : Act01) : List Value := (List.range 32).map fun i => bv (a.H.getD i 0)
def Act01.cells (a : Act01) : List Value := .int .i64 a.Do :: .int .i64 a.N :: .int .u64 a.U :: a.VB :: a.tail
structure Act01.Ok (W : World) (a : Act01) : Prop where
  d : -9223372036854775808 ≤ a.Do ∧ a.Do ≤ 9223372036854775807
  n : -9223372036854775808 ≤ a.N ∧ a.N ≤ 9223372036854775807
  u : a.U < U64
  b : RdR (fun k => k < W.heap.size) a.B.length W a.VB a.B
  h : a.H.length = 32
  hb : Bytes a.H
theorem Act01.len (a : Act01) : a.cells.length = 36 := by simp [Act01.cells, Act01.tail]
theorem Act01.tail_eq {a : Act01} (h : a.H.length = 32) : a.tail = a.H.map bv := by
  apply List.ext_getElem
  · simp [Act01.tail, h]
  · intro i h1 h2
    simp only [Act01.tail, List.length_map, List.length_range] at h1
    simp [Act01.tail, List.getD, List.getElem?_eq_getElem (show i < a.H.length by omega)]

theorem cells_i64 : Try.prog.cellsOf 3 = 1 := by kernel_rfl
theorem cells_u64 : Try.prog.cellsOf 29 = 1 := by kernel_rfl
theorem cells_u8 : Try.prog.cellsOf 5 = 1 := by kernel_rfl
theorem cells_bytes : Try.prog.cellsOf 32 = 1 := by kernel_rfl
theorem cells_hash : Try.prog.cellsOf 39 = 32 := by kernel_rfl
theorem cells_act : Try.prog.cellsOf 41 = 36 := by kernel_rfl

theorem trod_act {H : Type} {enc : TypeId × Value → H} {W : World} (fuel : Nat) (cs : List Value) (x : DataW H × List MemPlace)
    (h : DataW.trod enc Try.prog W 0 (fun _ => true) true fuel 41 cs = some x) : ∃ a : Act01, cs = a.cells ∧ a.Ok W := by
  obtain ⟨xs, n, _, rfl, hl, hn, hf⟩ := DataW.trod_struct Try.underlying41 h
  rw [cells_act] at hl
  have f0 : DataW.trod enc Try.prog W 0 (fun _ => true) true n 3 ((cs.drop 0).take (Try.prog.cellsOf 3)) = xs[0]? := hf 0 _ rfl
  have f1 : DataW.trod enc Try.prog W 0 (fun _ => true) true n 3 ((cs.drop 1).take (Try.prog.cellsOf 3)) = xs[1]? := hf 1 _ rfl
  have f2 : DataW.trod enc Try.prog W 0 (fun _ => true) true n 29 ((cs.drop 2).take (Try.prog.cellsOf 29)) = xs[2]? := hf 2 _ rfl
  have f3 : DataW.trod enc Try.prog W 0 (fun _ => true) true n 32 ((cs.drop 3).take (Try.prog.cellsOf 32)) = xs[3]? := hf 3 _ rfl
  have f4 : DataW.trod enc Try.prog W 0 (fun _ => true) true n 39 ((cs.drop 4).take (Try.prog.cellsOf 39)) = xs[4]? := hf 4 _ rfl
  have hxs : xs.length = 5 := hn
  rw [List.getElem?_eq_getElem (by omega)] at f0 f1 f2 f3 f4
  rw [cells_i64] at f0 f1
  rw [cells_u64] at f2
  rw [cells_bytes] at f3
  rw [cells_hash] at f4
  obtain ⟨q0, e0, _, w0⟩ := DataW.trod_int Try.underlying3 f0
  obtain ⟨q1, e1, _, w1⟩ := DataW.trod_int Try.underlying3 f1
  obtain ⟨q2, e2, _, w2⟩ := DataW.trod_int Try.underlying29 f2
  obtain ⟨hs, e4, b4, l4⟩ := trod_arr Try.underlying39 Try.underlying5 cells_u8 cells_hash f4
  obtain ⟨v3, e3⟩ : ∃ v3, (cs.drop 3).take 1 = [v3] := ⟨cs[3]'(by omega), by rw [List.drop_eq_getElem_cons (by omega : 3 < cs.length)]; rfl⟩
  rw [e3] at f3
  obtain ⟨b3, r3⟩ := trod_bytes f3
  obtain ⟨u, hu, hU⟩ := u64_nat w2
  subst hu
  have hb0 := bounds_i64 w0
  have hb1 := bounds_i64 w1
  refine ⟨⟨q0, q1, u, v3, b3, hs⟩, ?_, ⟨hb0, hb1, hU, r3, l4, b4⟩⟩
  have ht := Act01.tail_eq (a := ⟨q0, q1, u, v3, b3, hs⟩) l4
  unfold Act01.cells
  rw [ht]
  match cs, hl with
  | c0 :: c1 :: c2 :: c3 :: r, hl =>
    simp only [List.length_cons] at hl
    simp at e0 e1 e2 e3 e4
    rw [List.take_of_length_le (by omega)] at e4
    subst e0 e1 e2 e3 e4
    rfl

abbrev RdA := @RdE Act01 36 Act01.cells
theorem acts_of_trod {H : Type} {enc : TypeId × Value → H} {W : World} {base : Nat} {v : Value} {d : DataW H} {p : List MemPlace} (hv : Value.okWide Try.prog W .any base 37 v)
    (h : DataW.Trod enc Try.prog W 0 (fun _ => true) true 37 v d p) : ∃ l : List Act01, RdA (fun k => k < W.heap.size) W v l ∧ ∀ a ∈ l, a.Ok W := by
  obtain ⟨a0, len0, cap0, rfl⟩ := okWide_slice Try.underlying37 hv
  obtain ⟨fuel, hf⟩ := h
  exact trod_list Act01.cells (Act01.Ok W) Try.underlying37 cells_act (by omega) Act01.len trod_act hf
end Go.Proofs.Ytceojplopbjokaa
