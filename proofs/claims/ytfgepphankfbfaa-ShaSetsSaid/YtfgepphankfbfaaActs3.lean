/- Acts of three fields (a choice, a number, bytes) as arguments hold them; a block that holds a struct (LocC). -/
import Derived.Test.YtfgepphankfbfaaFits
set_option maxRecDepth 100000
set_option linter.unusedVariables false
namespace Go.Proofs.Ytfgepphankfbfaa
open Go Go.RowKit Go.Gv Go.ChangeShapes Go.WideShapes Go.ChangeAt Go.Deep

structure Act3 where
  Do : Int
  N : Int
  VB : Value
  B : List Int
instance : Inhabited Act3 := ⟨⟨0, 0, .slice none 0 0, []⟩⟩
def Act3.cells (a : Act3) : List Value := [.int .i64 a.Do, .int .i64 a.N, a.VB]
structure Act3.Ok (W : World) (a : Act3) : Prop where
  d : -9223372036854775808 ≤ a.Do ∧ a.Do ≤ 9223372036854775807
  n : -9223372036854775808 ≤ a.N ∧ a.N ≤ 9223372036854775807
  b : RdR (fun k => k < W.heap.size) a.B.length W a.VB a.B
abbrev RdA3 := @RdE Act3 3 Act3.cells
theorem Act3.one {W : World} {a : Act3} (h : a.Ok W) : ∀ u ∈ a.cells, u.oneCell' = true := by
  intro u hu
  obtain ⟨ao, cap, e⟩ := h.b.shape
  simp only [Act3.cells, List.mem_cons, List.not_mem_nil, or_false] at hu
  rcases hu with rfl | rfl | rfl
  · rfl
  · rfl
  · rw [e]; rfl

section
variable {α : Type} {s : Nat} {cells : α → List Value} {R R' S : Nat → Prop} {w w' : World} {v : Value} {l : List α}
theorem RdE.shape' (h : RdE s cells R w v l) : ∃ ao cap, v = .slice ao l.length cap ∧ l.length ≤ maxLen := by
  rcases h with ⟨rfl, ao, cap, rfl⟩ | ⟨g, o, cap, _, rfl, _, h1, h2, _⟩
  · exact ⟨ao, cap, rfl, by simp⟩
  · exact ⟨_, cap, rfl, by omega⟩
theorem RdE.at' {ao : Option Addr} {n cap : Nat} (h : RdE s cells R w (.slice ao n cap) l) {i : Nat} (hi : i < l.length) :
    ∃ g o, ao = some ⟨g, o, none⟩ ∧ ∀ j u, (cells l[i])[j]? = some u → w.cell? ⟨g, o + i * s + j, none⟩ = some u := by
  rcases h with ⟨rfl, _⟩ | ⟨g, o, cap', _, e, _, _, _, h6⟩
  · exact absurd hi (by simp)
  · simp only [Value.slice.injEq] at e
    exact ⟨g, o, e.1, fun j u => h6 i hi j u⟩
end

/-- block g holds the cells cs -/
def LocC (T : TypeId) (R : Nat → Prop) (w : World) (g : Nat) (cs : List Value) : Prop := Cs w g cs.toArray T ∧ R g
section
variable {T : TypeId} {R R' S : Nat → Prop} {w w' : World} {g : Nat} {cs : List Value}
theorem LocC.mod (h : LocC T R w g cs) (hm : Mod S w w') (hs : ∀ k, R k → S k → False) : LocC T R w' g cs := ⟨h.1.mod hm (hs g h.2), h.2⟩
theorem LocC.widen (h : LocC T R w g cs) (hs : ∀ k, R k → R' k) : LocC T R' w g cs := ⟨h.1, hs g h.2⟩
theorem LocC.at (h : LocC T R w g cs) {j : Nat} {u : Value} (hu : cs[j]? = some u) : w.cell? ⟨g, j, none⟩ = some u := (h.1.cell j).trans (by simpa using hu)
theorem LocC.fz (h : LocC T R w g cs) (j : Nat) : w.frozen? ⟨g, j, none⟩ = false := h.1.frozen j
end

end Go.Proofs.Ytfgepphankfbfaa
