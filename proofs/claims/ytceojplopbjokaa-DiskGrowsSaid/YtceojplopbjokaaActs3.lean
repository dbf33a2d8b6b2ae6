/- Acts of three fields (a choice, a number, bytes) as arguments hold them; a block that holds a struct (LocC). -/
import Derived.Test.YtceojplopbjokaaFits
set_option maxRecDepth 100000
set_option linter.unusedVariables false
namespace Go.Proofs.Ytceojplopbjokaa
open Go Go.RowKit Go.Gv Go.ChangeShapes Go.WideShapes Go.ChangeAt Go.Deep

structure Act3 where
  Do : Int
  N : Int
  VB : Value
  B : List Int
instance : Inhabited Act3 := ⟨⟨0, 0, .slice none 0 0, []⟩⟩
def Act3.cells (a : Act3) : List Value := [.int .i64 a.Do, .int .i64 a.N, a.VB]
structure Act3.Ok (W : World) (a : Act3) : Prop where
  d : -9223372036854775808 ≤ a.Do ∧ a.Do ≤ 9223372036854775807
  n : -9223372036854775808 ≤ a.N ∧ a.N ≤ 9223372036854775807
  b : RdR (fun k => k < W.heap.size) a.B.length W a.VB a.B
abbrev RdA3 := @RdE Act3 3 Act3.cells
theorem Act3.one {W : World} {a : Act3} (h : a.Ok W) : ∀ u ∈ a.cells, u.oneCell' = true := by
  intro u hu
  obtain ⟨ao, cap, e⟩ := h.b.shape
  simp only [Act3.cells, List.mem_cons, List.not_mem_nil, or_false] at hu
  rcases hu with rfl | rfl | rfl
  · rfl
  · rfl
  · rw [e]; rfl

section
variable {α : Type} {s : Nat} {cells : α → List Value} {R R' S : Nat → Prop} {w w' : World} {v : Value} {l : List α}
theorem RdE.shape' (h : RdE s cells R w v l) : ∃ ao cap, v = .slice ao l.length cap ∧ l.length ≤ maxLen := by
  rcases h with ⟨rfl, ao, cap, rfl⟩ | ⟨g, o, cap, _, rfl, _, h1, h2, _⟩
  · exact ⟨ao, cap, rfl, by simp⟩
  · exact ⟨_, cap, rfl, by omega⟩
theorem RdE.at' {ao : Option Addr} {n cap : Nat} (h : RdE s cells R w (.slice ao n cap) l) {i : Nat} (hi : i < l.length) :
    ∃ g o, ao = some ⟨g, o, none⟩ ∧ ∀ j u, (cells l[i])[j]? = some u → w.cell? ⟨g, o + i * s + j, none⟩ = some u := by
  rcases h with ⟨rfl, _⟩ | ⟨g, o, cap', _, e, _, _, _, h6⟩
  · exact absurd hi (by simp)
  · simp only [Value.slice.injEq] at e
    exact ⟨g, o, e.1, fun j u => h6 i hi j u⟩
end

/-- block g holds the cells cs -/
def LocC (T : TypeId) (R : Nat → Prop) (w : World) (g : Nat) (cs : List Value) : Prop := Cs w g cs.toArray T ∧ R g
section
variable {T : TypeId} {R R' S : Nat → Prop} {w w' : World} {g : Nat} {cs : List Value}
theorem LocC.mod (h : LocC T R w g cs) (hm : Mod S w w') (hs : ∀ k, R k → S k → False) : LocC T R w' g cs := ⟨h.1.mod hm (hs g h.2), h.2⟩
theorem LocC.widen (h : LocC T R w g cs) (hs : ∀ k, R k → R' k) : LocC T R' w g cs := ⟨h.1, hs g h.2⟩
theorem LocC.at (h : LocC T R w g cs) {j : Nat} {u : Value} (hu : cs[j]? = some u) : w.cell? ⟨g, j, none⟩ = some u := (h.1.cell j).trans (by simpa using hu)
theorem LocC.fz (h : LocC T R w g cs) (j : Nat) : w.frozen? ⟨g, j, none⟩ = false := h.1.frozen j
end

theorem cells_act07 : Try.prog.cellsOf 69 = 3 := by kernel_rfl
theorem trod_act07 {H : Type} {enc : TypeId × Value → H} {W : World} (fuel : Nat) (cs : List Value) (x : DataW H × List MemPlace)
    (h : DataW.trod enc Try.prog W 0 (fun _ => true) true fuel 69 cs = some x) : ∃ a : Act3, cs = a.cells ∧ a.Ok W := by
  obtain ⟨xs, n, _, rfl, hl, hn, hf⟩ := DataW.trod_struct Try.underlying69 h
  rw [cells_act07] at hl
  have f0 : DataW.trod enc Try.prog W 0 (fun _ => true) true n 3 ((cs.drop 0).take (Try.prog.cellsOf 3)) = xs[0]? := hf 0 _ rfl
  have f1 : DataW.trod enc Try.prog W 0 (fun _ => true) true n 3 ((cs.drop 1).take (Try.prog.cellsOf 3)) = xs[1]? := hf 1 _ rfl
  have f3 : DataW.trod enc Try.prog W 0 (fun _ => true) true n 32 ((cs.drop 2).take (Try.prog.cellsOf 32)) = xs[2]? := hf 2 _ rfl
  have hxs : xs.length = 3 := hn
  rw [List.getElem?_eq_getElem (by omega)] at f0 f1 f3
  rw [show Try.prog.cellsOf 3 = 1 from by kernel_rfl] at f0 f1
  rw [show Try.prog.cellsOf 32 = 1 from by kernel_rfl] at f3
  match cs, hl with
  | [c0, c1, c2], _ =>
    simp only [List.drop_zero, List.drop_succ_cons, List.take_succ_cons, List.take_zero] at f0 f1 f3
    obtain ⟨q0, e0, _, w0⟩ := DataW.trod_int Try.underlying3 f0
    obtain ⟨q1, e1, _, w1⟩ := DataW.trod_int Try.underlying3 f1
    obtain ⟨b3, r3⟩ := trod_bytes f3
    simp at e0 e1
    subst e0 e1
    exact ⟨⟨q0, q1, c2, b3⟩, rfl, bounds_i64 w0, bounds_i64 w1, r3⟩
theorem acts_of_trod07 {H : Type} {enc : TypeId × Value → H} {W : World} {base : Nat} {v : Value} {d : DataW H} {p : List MemPlace} (hv : Value.okWide Try.prog W .any base 67 v)
    (h : DataW.Trod enc Try.prog W 0 (fun _ => true) true 67 v d p) : ∃ l : List Act3, RdA3 (fun k => k < W.heap.size) W v l ∧ ∀ a ∈ l, a.Ok W := by
  obtain ⟨a0, len0, cap0, rfl⟩ := okWide_slice Try.underlying67 hv
  obtain ⟨fuel, hf⟩ := h
  exact trod_list Act3.cells (Act3.Ok W) Try.underlying67 cells_act07 (by omega) (fun _ => rfl) trod_act07 hf
theorem size_act07 (a : Act3) : (Try.prog.info? 69).map (·.size) = some a.cells.length := by show _ = some 3; kernel_rfl

end Go.Proofs.Ytceojplopbjokaa
