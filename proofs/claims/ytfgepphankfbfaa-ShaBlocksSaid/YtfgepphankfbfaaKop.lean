/- Bytes in a region of wp_region_K: appends, copies, literals, slices' beginnings. -/
import Derived.Test.YtfgepphankfbfaaVal6
import Derived.Test.YtfgepphankfbfaaIdx
import Derived.Test.YtfgepphankfbfaaArith
import Derived.Test.YtfgepphankfbfaaReg
set_option maxRecDepth 100000
set_option linter.unusedVariables false
namespace Go.Proofs.Ytfgepphankfbfaa
open Go Go.RowKit Go.Gv

theorem run_appB (w : World) (ty : TypeId) {v xv : Value} {bs new : List Int} (hown : OwnB w v bs) (hrd : RdB w xv new) (hroom : bs.length + new.length ≤ Room) :
    ∃ ao cap w', (Builtin.append_ #[22, 22] ty #[v, xv]).run Try.prog w = .ok (.slice ao (bs.length + new.length) cap) w' ∧ AppB w v (bs ++ new) (.slice ao (bs.length + new.length) cap) w' := by
  obtain ⟨i0, hi, hz0, hz1, hz2⟩ := info_parts info_u8
  obtain ⟨ao, cap, w', hr, h1, h2, h3⟩ := run_append (P := Try.prog) w 22 ty 5 i0 (.int .u8 0) 1 1 Try.underlying22 hi hz0 hz1 hz2 rfl (by decide) IsB_zero v _ _ hown xv new.length (new.map bv) hrd.2 (isB_all hrd.1) (ints_oneCell .u8 new) (by unfold Room at hroom; omega) (by unfold Room at hroom; rw [maxLen_val]; omega)
  refine ⟨ao, cap, w', hr, ?_, h2, h3⟩
  unfold OwnB
  rw [List.length_append, List.map_append]
  exact h1
theorem KMod.app {B : Nat} {S0 : Nat → Nat → Prop} {t : List Value} {v v' : Value} {w w' : World} {ao ao' : Option Addr} {n n' cap cap' : Nat} (hv : v ∈ t) (hs : v = .slice ao n cap) (hs' : v' = .slice ao' n' cap') (hB : ∀ g, v.ownBlock = some g → B ≤ g)
    (h2 : Mod (fun k => some k = v.ownBlock) w w') (h3 : v'.ownBlock = v.ownBlock ∨ ∃ k, v'.ownBlock = some k ∧ w.heap.size ≤ k) : KMod B S0 t v' w w' := by
  refine ⟨h2.mono fun j _ hj => Or.inr ⟨hB j hj.symm, v, hv, (owns_block hs).2 hj.symm⟩, fun j hj => ?_⟩
  have h4 := (owns_block hs').1 hj
  rcases h3 with h | ⟨k, h, hk⟩
  · exact Or.inr (Or.inl ⟨v, hv, (owns_block hs).2 (by rw [← h]; exact h4)⟩)
  · rw [h] at h4
    cases h4
    exact Or.inr (Or.inr hk)
theorem KMod.fresh {B : Nat} {S0 : Nat → Nat → Prop} {t : List Value} {v : Value} {w w' : World} {ao : Option Addr} {n cap : Nat} (hm : Mod (fun _ => False) w w') (hs : v = .slice ao n cap) (h : ∀ g, v.ownBlock = some g → New w w' g) : KMod B S0 t v w w' :=
  KMod.quiet hm fun j hj => Or.inr (Or.inr (h j ((owns_block hs).1 hj)).1)
theorem KMod.plain {B : Nat} {S0 : Nat → Nat → Prop} {t : List Value} {v : Value} {w w' : World} (hm : Mod (fun _ => False) w w') (h : ∀ j, ¬ owns v j) : KMod B S0 t v w w' :=
  KMod.quiet hm fun j hj => absurd hj (h j)
theorem litK.rd {B : Nat} {bs : List Int} {t : List Value} {v : Value} {w : World} (hb : Bytes bs) (h : litK B 5 (bs.map bv).toArray t v w) (hl : 0 < bs.length) (hl2 : bs.length ≤ 1000000) : RdB w v bs := by
  obtain ⟨g, rfl, -, -, h4⟩ := h
  have e : (bs.map bv).toArray.size = bs.length := by simp
  rw [e]
  refine ⟨hb, Rd.mk (Nat.le_refl _) (by rw [maxLen_val]; omega) (by simp) fun j y hy => ?_⟩
  rw [Nat.zero_add, Cs.cell h4]
  simpa using hy
section
variable {P : Program} {o : Oper} {a : Act} {w w' : World}
theorem ex_sliceHi {T e : TypeId} {x y : Operand} {g off n cap i : Nat} {s : Nat} {k : IntKind} (ho : o.op = .slice T x none (some y) none) (hu : P.underlying T = some (.slice e)) (hs : (P.info? e).map (·.size) = some s) (hx : a.eval x = .slice (some ⟨g, off, none⟩) n cap) (hy : a.eval y = .int k (i : Int)) (hi : i ≤ cap) :
    (execOp a.eval o).run P w = .ok (.value (.slice (some ⟨g, off, none⟩) i cap)) w := by
  have hsz : (sizeOf e).run P w = .ok s w := by
    cases hq : P.info? e with
    | none => rw [hq] at hs; cases hs
    | some i => rw [hq] at hs; simp [sizeOf, typeInfo, hq]; exact Option.some.inj hs
  have h0 : (0 : Nat) ≠ cap ∨ cap = 0 := by omega
  unfold execOp
  simp [ho, hx, hy, Instr.sliceAt, Instr.slice, Instr.sliceBounds, Instr.sliceBound, asIntOf, run_underlying hu, hsz, hi, add_mk]
end
end Go.Proofs.Ytfgepphankfbfaa
