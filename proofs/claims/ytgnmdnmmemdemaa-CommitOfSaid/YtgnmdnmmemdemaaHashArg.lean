/- A hash that comes in as an argument. -/
import Derived.Test.YtgnmdnmmemdemaaFits
set_option maxRecDepth 100000
set_option linter.unusedVariables false
namespace Go.Proofs.Ytgnmdnmmemdemaa
open Go Go.RowKit Go.Gv Go.ChangeShapes Go.WideShapes Go.ChangeAt Go.Deep

theorem hash_of_trod {H : Type} {enc : TypeId × Value → H} {W : World} {base : Nat} {v : Value} {d : DataW H} {p : List MemPlace} (hv' : Value.okWide Try.prog W .any base 28 v)
    (h : DataW.Trod enc Try.prog W 0 (fun _ => true) true 28 v d p) : ∃ a : List Int, v = hv a ∧ a.length = 32 ∧ Bytes a := by
  obtain ⟨fuel, hf⟩ := h
  obtain ⟨hs, e, b, l⟩ := trod_arr Try.underlying28 Try.underlying5 (by kernel_rfl) (by kernel_rfl) hf
  simp only [Value.okWide, Try.underlying28] at hv'
  obtain ⟨cs, rfl, _, _⟩ := hv'
  refine ⟨hs, ?_, l, b⟩
  unfold hv
  congr 1
  apply Array.ext'
  simpa [Value.cells] using e
end Go.Proofs.Ytgnmdnmmemdemaa
