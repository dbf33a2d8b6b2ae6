/- Lists of lists of bytes. -/
import Derived.Test.YtfgepphankfbfaaOwV
import Derived.Test.YtfgepphankfbfaaFits
set_option maxRecDepth 100000
set_option linter.unusedVariables false
namespace Go.Proofs.Ytfgepphankfbfaa
open Go Go.RowKit Go.Gv Go.ChangeShapes Go.WideShapes Go.ChangeAt Go.Deep

structure Row01 where
  V : Value
  B : List Int
instance : Inhabited Row01 := ⟨⟨.slice none 0 0, []⟩⟩
def Row01.cells (a : Row01) : List Value := [a.V]
def Row01.Ok (W : World) (a : Row01) : Prop := RdR (fun k => k < W.heap.size) a.B.length W a.V a.B
theorem cells_bytes2 : Try.prog.cellsOf 22 = 1 := by kernel_rfl
theorem trod_row {H : Type} {enc : TypeId × Value → H} {W : World} (fuel : Nat) (cs : List Value) (x : DataW H × List MemPlace)
    (h : DataW.trod enc Try.prog W 0 (fun _ => true) true fuel 22 cs = some x) : ∃ a : Row01, cs = a.cells ∧ a.Ok W := by
  have hv : ∃ v, cs = [v] := by
    rcases open_ints Try.underlying22 Try.underlying5 (by kernel_rfl) h with ⟨hcs, _⟩ | ⟨x, len0, cap0, zs, hcs, _⟩
    · exact ⟨_, hcs⟩
    · exact ⟨_, hcs⟩
  obtain ⟨v, rfl⟩ := hv
  obtain ⟨bs, hb⟩ := trod_bytes h
  exact ⟨⟨v, bs⟩, rfl, hb⟩
abbrev RdL := @RdE Row01 1 Row01.cells
theorem rows_of_trod {H : Type} {enc : TypeId × Value → H} {W : World} {base : Nat} {v : Value} {d : DataW H} {p : List MemPlace} (hv : Value.okWide Try.prog W .any base 91 v)
    (h : DataW.Trod enc Try.prog W 0 (fun _ => true) true 91 v d p) : ∃ l : List Row01, RdL (fun k => k < W.heap.size) W v l ∧ ∀ a ∈ l, a.Ok W := by
  obtain ⟨a0, len0, cap0, rfl⟩ := okWide_slice Try.underlying91 hv
  obtain ⟨fuel, hf⟩ := h
  exact trod_list Row01.cells (Row01.Ok W) Try.underlying91 cells_bytes2 (by omega) (fun _ => rfl) trod_row hf

/-- rows, each where it lies -/
def RdF (R : Nat → Prop) (w : World) (rs : List (Value × List Int)) : Prop := ∀ p ∈ rs, RdR R 200 w p.1 p.2
section
variable {R R' S : Nat → Prop} {w w' : World} {rs : List (Value × List Int)}
theorem RdF.mod (h : RdF R w rs) (hm : Mod S w w') (hs : ∀ k, R k → S k → False) : RdF R w' rs := fun p hp => (h p hp).mod hm hs
theorem RdF.widen (h : RdF R w rs) (hs : ∀ k, R k → R' k) : RdF R' w rs := fun p hp => (h p hp).widen hs (Nat.le_refl _)
theorem RdF.snoc (h : RdF R w rs) {v : Value} {bs : List Int} (hv : RdR R 200 w v bs) : RdF R w (rs ++ [(v, bs)]) := by
  intro p hp
  rcases List.mem_append.1 hp with h1 | h1
  · exact h p h1
  · simp at h1; subst h1; exact hv
end
theorem OwV.cell {e : TypeId} {R : Nat → Prop} {N n cap g : Nat} {w : World} {cs : List Value} (h : OwV e R N w (.slice (some ⟨g, 0, none⟩) n cap) cs) : ∀ j u, cs[j]? = some u → w.cell? ⟨g, j, none⟩ = some u := by
  intro j u hu
  have hj : j < cs.length := (List.getElem?_eq_some_iff.1 hu).1
  obtain ⟨g', e', hc⟩ := h.at hj
  simp only [Option.some.injEq, Addr.mk.injEq, and_true] at e'
  subst e'
  exact hc j u hu
def rowsB (rs : List (Value × List Int)) : List Int := rs.flatMap fun p => encN p.2.length ++ p.2
theorem info_bytes : (Try.prog.info? 22).map (fun i => (i.zero, i.size, i.bytes)) = some (some (.slice none 0 0), 1, 24) := by kernel_rfl
end Go.Proofs.Ytfgepphankfbfaa
