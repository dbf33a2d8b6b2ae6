/- gavellaw01.Act: a call, as an argument holds it. -/
import Derived.Test.YtknpapcfhnhheaaFits
set_option maxRecDepth 100000
set_option linter.unusedVariables false
namespace Go.Proofs.Ytknpapcfhnhheaa
open Go Go.RowKit Go.Gv Go.ChangeShapes Go.WideShapes Go.ChangeAt Go.Deep

structure Act01 where
  Do : Int
  N : Int
  U : Nat
  VB : Value
  B : List Int
  H : List Int
instance : Inhabited Act01 := ⟨⟨0, 0, 0, .slice none 0 0, [], List.replicate 32 0⟩⟩
def Act01.tail (a : Act01) : List Value := (List.range 32).map fun i => bv (a.H.getD i 0)
def Act01.cells (a : Act01) : List Value := .int .i64 a.Do :: .int .i64 a.N :: .int .u64 a.U :: a.VB :: a.tail
structure Act01.Ok (W : World) (a : Act01) : Prop where
  d : -9223372036854775808 ≤ a.Do ∧ a.Do ≤ 9223372036854775807
  n : -9223372036854775808 ≤ a.N ∧ a.N ≤ 9223372036854775807
  u : a.U < U64
  b : RdR (fun k => k < W.heap.size) a.B.length W a.VB a.B
  h : a.H.length = 32
  hb : Bytes a.H
theorem Act01.len (a : Act01) : a.cells.length = 36 := by simp [Act01.cells, Act01.tail]
theorem Act01.tail_eq {a : Act01} (h : a.H.length = 32) : a.tail = a.H.map bv := by
  apply List.ext_getElem
  · simp [Act01.tail, h]
  · intro i h1 h2
    simp only [Act01.tail, List.length_map, List.length_range] at h1
    simp [Act01.tail, List.getD, List.getElem?_eq_getElem (show i < a.H.length by omega)]

theorem cells_i64 : Try.prog.cellsOf 3 = 1 := by kernel_rfl
theorem cells_u64 : Try.prog.cellsOf 26 = 1 := by kernel_rfl
theorem cells_u8 : Try.prog.cellsOf 5 = 1 := by kernel_rfl
theorem cells_bytes : Try.prog.cellsOf 38 = 1 := by kernel_rfl
theorem cells_hash : Try.prog.cellsOf 25 = 32 := by kernel_rfl
abbrev RdA := @RdE Act01 36 Act01.cells
end Go.Proofs.Ytknpapcfhnhheaa
