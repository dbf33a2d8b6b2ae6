/- Arithmetic of single operations; elements of arrays. No program here. -/
import Derived.Test.YtknpapcfhnhheaaBld
set_option linter.unusedVariables false
namespace Go.Gv
open Go Go.RowKit

section
variable {P : Program} {o : Oper} {a : Act} {w w' : World} {t : TypeId} {k : IntKind}
theorem run_xor_i (x y : Int) : (binOp .xor t (.int k x) (.int k y)).run P w = .ok (.int k (bits .xor k x y)) w := by simp [binOp, Op.intBits, bits]
theorem run_and_i (x y : Int) : (binOp .and t (.int k x) (.int k y)).run P w = .ok (.int k (bits .and k x y)) w := by simp [binOp, Op.intBits, bits]
theorem run_or_i (x y : Int) : (binOp .or t (.int k x) (.int k y)).run P w = .ok (.int k (bits .or k x y)) w := by simp [binOp, Op.intBits, bits]
theorem run_mul_i (x y : Int) : (binOp .mul t (.int k x) (.int k y)).run P w = .ok (.int k (k.wrap (x * y))) w := by simp [binOp, Op.intArith]
theorem run_shr_n (n : Nat) (x : Int) (hn : n ≤ k.bits) : (binOp .shr t (.int k x) (.int .u64 (n : Int))).run P w = .ok (.int k (x / 2 ^ n)) w := by
  simp [binOp, Op.shift, Nat.min_eq_left hn]
  rw [if_neg (by omega), Int.fdiv_eq_ediv_of_nonneg _ (Int.le_of_lt (Int.pow_pos (show (0 : Int) < 2 by decide)))]
theorem run_shl_n (n : Nat) (x : Int) (hn : n ≤ k.bits) : (binOp .shl t (.int k x) (.int .u64 (n : Int))).run P w = .ok (.int k (k.wrap (x * 2 ^ n))) w := by
  simp [binOp, Op.shift, Nat.min_eq_left hn]
  intro h
  omega
theorem ex_idxA {T e : TypeId} {x y : Operand} {g off i s n : Nat} {k : IntKind} (ho : o.op = .indexAddr T x y) (hu : P.underlying T = some (.array n e)) (hn : 1 < n) (hs : (P.info? e).map (·.size) = some s) (hx : a.eval x = .pointer (some ⟨g, off, none⟩)) (hy : a.eval y = .int k (i : Int)) (hi : i < n) :
    (execOp a.eval o).run P w = .ok (.value (.pointer (some ⟨g, off + i * s, none⟩))) w := by
  have hsz : (sizeOf e).run P w = .ok s w := by
    cases hq : P.info? e with
    | none => rw [hq] at hs; cases hs
    | some i => rw [hq] at hs; simp [sizeOf, typeInfo, hq]; exact Option.some.inj hs
  unfold execOp
  simp [ho, hx, hy, Instr.indexAt, asIntOf, run_underlying hu, hsz, hi, add_mk, Instr.sureAddr]
theorem ex_sliceLo {T e : TypeId} {x y : Operand} {g off n cap l : Nat} {k : IntKind} (ho : o.op = .slice T x (some y) none none) (hu : P.underlying T = some (.slice e)) (hs : (P.info? e).map (·.size) = some 1) (hx : a.eval x = .slice (some ⟨g, off, none⟩) n cap) (hy : a.eval y = .int k (l : Int)) (hl : l ≤ n) (hc : l < cap) :
    (execOp a.eval o).run P w = .ok (.value (.slice (some ⟨g, off + l, none⟩) (n - l) (cap - l))) w := by
  have hsz : (sizeOf e).run P w = .ok 1 w := by
    cases hq : P.info? e with
    | none => rw [hq] at hs; cases hs
    | some i => rw [hq] at hs; simp [sizeOf, typeInfo, hq]; exact Option.some.inj hs
  have hne : ¬ cap = l := by omega
  unfold execOp
  simp [ho, hx, hy, Instr.sliceAt, Instr.slice, Instr.sliceBounds, Instr.sliceBound, asIntOf, run_underlying hu, hsz, hl, add_mk, hne]
theorem ex_buildC {t : TypeId} {ps : Array (Nat × Operand)} {parts : List (Nat × Value)} {r : Array Value} (ho : o.op = .build t ps) (hp : (ps.map fun (i, x) => (i, a.eval x)).toList = parts) (h : P.built t parts = some r) : (execOp a.eval o).run P w = .ok (.value (.agg r)) w := by
  have hr := run_build (P := P) w t (ps.map fun (i, x) => (i, a.eval x)) r (by rw [hp]; exact h)
  unfold execOp
  simp only [ho, Sem.run_bind, hr, Result.andThen_ok, Sem.run_pure]
theorem ex_convI {src dst : TypeId} {x : Operand} {k k' : IntKind} {n : Int} (ho : o.op = .convert src dst x) (hs : (P.underlying src).isSome = true) (hd : P.underlying dst = some (.int k')) (hx : a.eval x = .int k n) : (execOp a.eval o).run P w = .ok (.value (.int k' (k'.wrap n))) w := by
  unfold execOp
  cases hq : P.underlying src with
  | none => rw [hq] at hs; cases hs
  | some d => simp [ho, hx, convert, run_underlying hd, run_underlying hq, Conv.intToInt]
theorem ex_notx {T : TypeId} {x : Operand} {k : IntKind} {n : Int} (ho : o.op = .unOp .xor T x) (hx : a.eval x = .int k n) : (execOp a.eval o).run P w = .ok (.value (.int k (bits .xor k (if k.signed = true then -1 else k.max) n))) w := by
  unfold execOp
  simp [ho, hx, Op.unary, bits, Op.intBits]
end
end Go.Gv
