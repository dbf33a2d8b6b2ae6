/- Local copies of an Act; lent texts with their blocks. -/
import Derived.Test.YtknpapcfhnhheaaActs
import Derived.Test.YtknpapcfhnhheaaRef1
set_option maxRecDepth 100000
set_option linter.unusedVariables false
namespace Go.Proofs.Ytknpapcfhnhheaa
open Go Go.RowKit Go.Gv

section
variable {α : Type} {s : Nat} {cells : α → List Value} {R R' S : Nat → Prop} {w w' : World} {v : Value} {l : List α}
theorem RdE.shape (h : RdE s cells R w v l) : ∃ ao cap, v = .slice ao l.length cap ∧ l.length ≤ maxLen := by
  rcases h with ⟨rfl, ao, cap, rfl⟩ | ⟨g, o, cap, _, rfl, _, h1, h2, _⟩
  · exact ⟨ao, cap, rfl, by simp⟩
  · exact ⟨_, cap, rfl, by omega⟩
theorem RdE.at {ao : Option Addr} {n cap : Nat} (h : RdE s cells R w (.slice ao n cap) l) {i : Nat} (hi : i < l.length) :
    ∃ g o, ao = some ⟨g, o, none⟩ ∧ ∀ j u, (cells l[i])[j]? = some u → w.cell? ⟨g, o + i * s + j, none⟩ = some u := by
  rcases h with ⟨rfl, _⟩ | ⟨g, o, cap', _, e, _, _, _, h6⟩
  · exact absurd hi (by simp)
  · simp only [Value.slice.injEq] at e
    exact ⟨g, o, e.1, fun j u => h6 i hi j u⟩
theorem RdE.widen (h : RdE s cells R w v l) (hs : ∀ k, R k → R' k) : RdE s cells R' w v l := by
  rcases h with h | ⟨g, o, cap, h1, h2⟩
  · exact .inl h
  · exact .inr ⟨g, o, cap, hs g h1, h2⟩
end

section
variable {R R' S : Nat → Prop} {w w' : World} {g : Nat} {a : Act01}
end
theorem Act01.lay3 (a : Act01) (v : Value) : lay a.cells.toArray 3 [v] = ({a with VB := v} : Act01).cells.toArray := by
  simp [lay, Act01.cells, Act01.tail]
theorem Act01.one {W : World} {a : Act01} (h : a.Ok W) : ∀ u ∈ a.cells, u.oneCell' = true := by
  intro u hu
  obtain ⟨ao, cap, e⟩ := h.b.shape
  simp only [Act01.cells, Act01.tail, List.mem_cons, List.mem_map] at hu
  rcases hu with rfl | rfl | rfl | rfl | ⟨i, _, rfl⟩
  · rfl
  · rfl
  · rfl
  · rw [e]; rfl
  · rfl
/-- a lent text with its block -/
def LentR (R : Nat → Prop) (N : Nat) (w : World) (v : Value) (bs : List Int) : Prop := Lent w v bs ∧ (∀ g, v.ownBlock = some g → R g) ∧ Bytes bs ∧ bs.length ≤ N ∧ N ≤ 1000000
section
variable {R R' S : Nat → Prop} {N M : Nat} {w w' : World} {v : Value} {bs : List Int}
theorem LentR.mod (h : LentR R N w v bs) (hm : Mod S w w') (hs : ∀ k, R k → S k → False) : LentR R N w' v bs := by
  obtain ⟨⟨g, rfl, hc⟩, h2, h3⟩ := h
  exact ⟨⟨g, rfl, hc.mod hm (hs g (h2 g rfl))⟩, h2, h3⟩
theorem LentR.widen (h : LentR R N w v bs) (hs : ∀ k, R k → R' k) (_hM : N ≤ N) : LentR R' N w v bs := ⟨h.1, fun g hg => hs g (h.2.1 g hg), h.2.2⟩
theorem LentR.rd (h : LentR R N w v bs) : RdR R N w v bs := by
  obtain ⟨⟨g, rfl, hc⟩, h2, h3, h4, h5⟩ := h
  refine ⟨⟨h3, ?_⟩, fun _ => h2, h4⟩
  refine Rd.mk (by omega) (by rw [maxLen_val]; omega) (by simp) fun j u hu => ?_
  rw [Nat.zero_add, hc.cell]
  have hj : j < bs.length := by have := (List.getElem?_eq_some_iff.1 hu).1; simpa using this
  simp only [List.getElem?_map, List.getElem?_toArray] at hu ⊢
  rw [← hu]
  congr 1
  unfold lendc
  rw [List.getElem?_append_left hj]
end
end Go.Proofs.Ytknpapcfhnhheaa
