/- Elements of slices: their addresses, appending one that has many cells. No program here. -/
import Derived.Test.YtknpapcfhnhheaaBld
import Derived.Test.YtknpapcfhnhheaaFits
set_option linter.unusedVariables false
namespace Go.Gv
open Go Go.RowKit

section
variable {P : Program} {o : Oper} {a : Act} {w w' : World}
theorem ex_idxS {T e : TypeId} {x y : Operand} {g off n cap i s : Nat} {k : IntKind} (ho : o.op = .indexAddr T x y) (hu : P.underlying T = some (.slice e)) (hs : (P.info? e).map (·.size) = some s) (hx : a.eval x = .slice (some ⟨g, off, none⟩) n cap) (hy : a.eval y = .int k (i : Int)) (hi : i < n) :
    (execOp a.eval o).run P w = .ok (.value (.pointer (some ⟨g, off + i * s, none⟩))) w := by
  have hsz : (sizeOf e).run P w = .ok s w := by
    cases hq : P.info? e with
    | none => rw [hq] at hs; cases hs
    | some i => rw [hq] at hs; simp [sizeOf, typeInfo, hq]; exact Option.some.inj hs
  unfold execOp
  simp [ho, hx, hy, Instr.indexAt, asIntOf, run_underlying hu, hsz, hi, add_mk]
theorem ex_buildS1 {T e : TypeId} {y : Operand} {cs : List Value} {s : Nat} {zc : List Value} (ho : o.op = .buildSlice T 1 #[(0, y)]) (hu : P.underlying T = some (.slice e)) (hie : (P.info? e).map (fun i => (i.size, i.zero)) = some (s, some (.agg zc.toArray))) (hz : zc.length = s) (h0 : 0 < s) (hb : s ≤ 1000) (hy : a.eval y = .agg cs.toArray) (hl : cs.length = s) :
    (execOp a.eval o).run P w = .ok (.value (.slice (some ⟨w.heap.size, 0, none⟩) 1 1)) (w.alloc (.cells cs.toArray e)) := by
  cases hq : P.info? e with
  | none => rw [hq] at hie; cases hie
  | some ie =>
    rw [hq] at hie
    have e0 := Option.some.inj hie
    have e1 : ie.size = s := congrArg Prod.fst e0
    have e2 : ie.zero = some (.agg zc.toArray) := congrArg Prod.snd e0
    have hf : Instr.fill (fun i => some (i * ie.size, ie.size)) ((Array.range (1 * ie.size)).map ((Value.agg zc.toArray).cells[· % (Value.agg zc.toArray).cells.size]!)) (#[((0 : Nat), a.eval y)] : Array (Nat × Value)).toList = some cs.toArray := by
      rw [hy, e1]
      unfold Instr.fill
      simp only
      have hsz : ((Array.range (1 * s)).map ((Value.agg zc.toArray).cells[· % (Value.agg zc.toArray).cells.size]!)).size = s := by simp
      rw [if_neg (by simp [Value.cells, hl])]
      unfold Instr.fill
      congr 1
      have := foldl_lay (0 * s) cs ((Array.range (1 * s)).map ((Value.agg zc.toArray).cells[· % (Value.agg zc.toArray).cells.size]!)).toList (by simp [hl])
      simp only [Value.cells] at this ⊢
      simp only [Array.toArray_toList] at this
      rw [← Array.toList_zipIdx] at this
      simp only [Array.foldl_toList] at this
      rw [this]
      simp [hl]
    have hr := run_buildSlice (P := P) w T e 1 (#[((0 : Nat), a.eval y)] : Array (Nat × Value)) cs.toArray ie (.agg zc.toArray) hu hq e2 (by rw [e1]; omega) (by rw [e1]; omega) hf
    unfold execOp
    simp only [ho, Sem.run_bind, List.map_toArray, List.map_cons, List.map_nil, hr, Result.andThen_ok, Sem.run_pure]
theorem ex_append {t : TypeId} {x y : Operand} {vx vy v : Value} (ho : o.op = .call { callee := .builtin .append, args := #[x, y], argTypes := #[t, t] }) (hx : a.eval x = vx) (hy : a.eval y = vy) (hr : (Builtin.append_ #[t, t] o.type #[vx, vy]).run P w = .ok v w') : (execOp a.eval o).run P w = .ok (.value v) w' := by
  unfold execOp
  simp only [ho, resolve, invoke, builtin, Sem.run_bind, Sem.run_pure, Result.andThen_ok, List.map_toArray, List.map_cons, List.map_nil, hx, hy, hr]
theorem ex_len1 {t e : TypeId} {m : Operand} {ao : Option Addr} {n cap : Nat} (ho : o.op = Op.call { callee := Callee.builtin Builtin.len, args := #[m], argTypes := #[t] }) (hm : a.eval m = .slice ao n cap) (ht : P.underlying t = some (.slice e)) : (execOp a.eval o).run P w = .ok (.value (.int .i64 n)) w := ex_lenS ho hm ht
end
end Go.Gv
