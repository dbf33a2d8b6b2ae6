/- Rows that a call gathers. -/
import Derived.Test.YtfgepphankfbfaaRowSum
set_option maxRecDepth 100000
set_option linter.unusedVariables false
namespace Go.Proofs.Ytfgepphankfbfaa
open Go Go.RowKit Go.Gv

/-- gathered rows: the outer list may be appended to; each row lies beside it, in blocks from B on -/
structure RowsO (B N : Nat) (w : World) (v : Value) (rs : List (Value × List Int)) : Prop where
  o : OwV 22 (fun k => v.ownBlock = some k) N w v (rs.map (·.1))
  b : ∀ g, v.ownBlock = some g → B ≤ g
  f : RdF (fun k => k < w.heap.size ∧ v.ownBlock ≠ some k ∧ B ≤ k) w rs
theorem RowsO.nil (B : Nat) (w : World) : RowsO B 0 w (.slice none 0 0) [] := ⟨OwV.nil _ _ _, (fun g hg => by cases hg), (fun p hp => by cases hp)⟩
theorem RowsO.shape {B N : Nat} {w : World} {v : Value} {rs : List (Value × List Int)} (h : RowsO B N w v rs) : ∃ ao cap, v = .slice ao rs.length cap := by
  obtain ⟨ao, cap, e⟩ := h.o.shape
  exact ⟨ao, cap, by rw [e, List.length_map]⟩
theorem RowsO.still {B N : Nat} {w w' : World} {v : Value} {rs : List (Value × List Int)} (h : RowsO B N w v rs) (hm : Mod (fun _ => False) w w') : RowsO B N w' v rs :=
  ⟨h.o.mod hm (fun _ _ h => h), h.b, (h.f.mod hm (fun _ _ h => h)).widen (fun k hk => ⟨Nat.lt_of_lt_of_le hk.1 hm.size, hk.2⟩)⟩
theorem RowsO.mod {B N : Nat} {w w' : World} {v : Value} {rs : List (Value × List Int)} {S : Nat → Prop} (h : RowsO B N w v rs) (hm : Mod S w w') (hS : ∀ k, B ≤ k → k < w.heap.size → S k → False) : RowsO B N w' v rs :=
  ⟨h.o.mod hm (fun k h1 h2 => hS k (h.b k h1) (Own.lt h.o.1 h1) h2), h.b, (h.f.mod hm (fun k h1 h2 => hS k h1.2.2 h1.1 h2)).widen (fun k hk => ⟨Nat.lt_of_lt_of_le hk.1 hm.size, hk.2⟩)⟩
theorem RowsO.rows {B N : Nat} {w : World} {v : Value} {rs : List (Value × List Int)} (h : RowsO B N w v rs) : RdRows w v rs := ⟨by
  have := Own.rd h.o.1
  rwa [List.length_map] at this, h.f.widen (fun k hk => hk.1)⟩
theorem RowsO.app {B N : Nat} {w w' : World} {v v' : Value} {rs : List (Value × List Int)} {u : Value} {bs : List Int} (h : RowsO B N w v rs) (hu : RdR (fun k => k < w.heap.size ∧ v.ownBlock ≠ some k ∧ B ≤ k) 200 w u bs) (hB : B ≤ w.heap.size)
    (ho : OwV 22 (fun k => v.ownBlock = some k ∨ New w w' k) (N + 1) w' v' (rs.map (·.1) ++ [u])) (hm : Mod (fun k => v.ownBlock = some k) w w') : RowsO B (N + 1) w' v' (rs ++ [(u, bs)]) := by
  refine ⟨?_, fun g hg => ?_, ?_⟩
  · rw [List.map_append]
    exact ⟨ho.1, fun g hg => hg, ho.2.2⟩
  · rcases ho.2.1 g hg with h1 | h1
    · exact h.b g h1
    · exact Nat.le_trans hB h1.1
  · refine ((h.f.snoc hu).mod hm (fun k h1 h2 => h1.2.1 h2)).widen (fun k hk => ⟨Nat.lt_of_lt_of_le hk.1 hm.size, fun e => ?_, hk.2.2⟩)
    rcases ho.2.1 k e with h1 | h1
    · exact hk.2.1 h1
    · exact absurd h1.1 (by omega)
/-- what was cut just now lies beside them -/
theorem RowsO.beside {B N : Nat} {w w' : World} {v u : Value} {rs : List (Value × List Int)} {bs : List Int} {n : Nat} (h : RowsO B N w v rs) (hu : OwR (New w w') n w' u bs) (hB : B ≤ w.heap.size) (hn : n ≤ 200) : RdR (fun k => k < w'.heap.size ∧ v.ownBlock ≠ some k ∧ B ≤ k) 200 w' u bs :=
  hu.rd.widen (fun k hk => ⟨hk.2, fun e => by have := Own.lt h.o.1 e; exact absurd hk.1 (by omega), Nat.le_trans hB hk.1⟩) hn
end Go.Proofs.Ytfgepphankfbfaa
