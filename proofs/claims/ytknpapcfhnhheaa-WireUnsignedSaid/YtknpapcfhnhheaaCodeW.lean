/- gavellaw01: the document's own example. -/
import Derived.Test.YtknpapcfhnhheaaKeep
import Derived.Test.YtknpapcfhnhheaaCode1
set_option maxRecDepth 100000
namespace Go.Proofs.Ytknpapcfhnhheaa
open Go Go.RowKit Go.Gv

theorem enc300 : encN 300 = [172, 2] := by
  rw [encN_ge (by decide), encN_lt (by decide)]; decide

theorem RdB_lit2 (w : World) (x y : Int) (hx : 0 ≤ x ∧ x < 256) (hy : 0 ≤ y ∧ y < 256) (e : TypeId) : RdB (w.alloc (.cells #[bv x, bv y] e)) (.slice (some ⟨w.heap.size, 0, none⟩) 2 2) [x, y] := by
  refine ⟨?_, Rd.mk (Nat.le_refl _) (by rw [maxLen_val]; omega) rfl fun j u hu => ?_⟩
  · intro z hz; simp at hz; rcases hz with rfl | rfl <;> assumption
  · rw [Nat.zero_add, (Cs.new w #[bv x, bv y] e).cell]; simpa using hu

end Go.Proofs.Ytknpapcfhnhheaa
