/- More single operations of a region. No program here. -/
import Derived.Test.YtknpapcfhnhheaaVal2
import Derived.Test.YtknpapcfhnhheaaMap
set_option linter.unusedVariables false
namespace Go.Gv
open Go Go.RowKit

section
variable {P : Program} {ops : Array Oper} {i : Nat} {o : Oper} {a : Act} {w w' : World}
theorem ex_load1 {ty : TypeId} {x : Operand} (ho : o.op = .load ty x) {d : TypeDesc} (hu : P.underlying ty = some d) (hd : aggDesc d = false) {ad : Addr} (hx : a.eval x = .pointer (some ad)) {v : Value} (hc : w.cell? ad = some v) : (execOp a.eval o).run P w = .ok (.value v) w := by
  have hagg : (isAgg ty).run P w = .ok false w := by
    unfold isAgg
    rw [Sem.run_bind, run_underlying hu w]
    cases d <;> simp_all [aggDesc]
  have hr : (loadVar ty ad).run P w = .ok v w := by simp [loadVar, Sem.run_bind, hagg, hc]
  unfold execOp
  simp only [ho, hx, Instr.loadAt, Instr.sureAddr, Sem.run_bind, Sem.run_pure, Result.andThen_ok, hr]
theorem ex_field {s : TypeId} {x : Operand} {f : Nat} (ho : o.op = .fieldAddr s x f) {fs : Array Field} (hu : P.underlying s = some (.struct fs)) {fd : Field} (hf : fs[f]? = some fd) (hz : (P.info? fd.type).map (fun i => decide (i.size = 0)) = some false) {g off : Nat} (hx : a.eval x = .pointer (some ⟨g, off, none⟩)) :
    (execOp a.eval o).run P w = .ok (.value (.pointer (some ⟨g, off + fd.offset, none⟩))) w := by
  have hs : ∃ n, (sizeOf fd.type).run P w = .ok n w ∧ n ≠ 0 := by
    cases hq : P.info? fd.type with
    | none => simp [hq] at hz
    | some i => exact ⟨i.size, by simp [sizeOf, typeInfo, hq], by simpa [hq] using hz⟩
  obtain ⟨n, hs, hn⟩ := hs
  unfold execOp
  simp [ho, hx, Instr.fieldAt, run_underlying hu, hf, Instr.sureAddr, fieldPlace, hs, hn, add_mk]
theorem ex_lookup {t : TypeId} {m x : Operand} {c : Bool} (ho : o.op = .lookup t m x c) {mv kv v : Value} (hm : a.eval m = mv) (hx : a.eval x = kv) (hr : (Instr.lookup t mv kv c).run P w = .ok v w) : (execOp a.eval o).run P w = .ok (.value v) w := by
  unfold execOp
  simp [ho, hm, hx, hr]
theorem ex_mapUpdate {t : TypeId} {m x u : Operand} (ho : o.op = .mapUpdate t m x u) {mv kv uv : Value} (hm : a.eval m = mv) (hx : a.eval x = kv) (hu : a.eval u = uv) (hr : (Instr.mapUpdate t mv kv uv).run P w = .ok () w') : (execOp a.eval o).run P w = .ok .skip w' := by
  unfold execOp
  simp [ho, hm, hx, hu, hr]
theorem run_eql_i {t : TypeId} {k : IntKind} (w : World) (x y : Int) (h : P.underlying t = some (.int k)) : (binOp .eql t (.int k x) (.int k y)).run P w = .ok (.bool (x == y)) w := by
  simp [binOp, Op.intCmp]
theorem run_neq_i {t : TypeId} {k : IntKind} (w : World) (x y : Int) (h : P.underlying t = some (.int k)) : (binOp .neq t (.int k x) (.int k y)).run P w = .ok (.bool (!(x == y))) w := by
  simp [binOp, Op.intCmp]
  rfl
theorem run_lss_i {t : TypeId} {k : IntKind} (w : World) (x y : Int) (h : P.underlying t = some (.int k)) : (binOp .lss t (.int k x) (.int k y)).run P w = .ok (.bool (decide (x < y))) w := by
  simp [binOp, Op.intCmp]
theorem run_leq_i {t : TypeId} {k : IntKind} (w : World) (x y : Int) (h : P.underlying t = some (.int k)) : (binOp .leq t (.int k x) (.int k y)).run P w = .ok (.bool (decide (x ≤ y))) w := by
  simp [binOp, Op.intCmp]
theorem run_gtr_i {t : TypeId} {k : IntKind} (w : World) (x y : Int) (h : P.underlying t = some (.int k)) : (binOp .gtr t (.int k x) (.int k y)).run P w = .ok (.bool (decide (y < x))) w := by
  simp [binOp, Op.intCmp]
theorem run_geq_i {t : TypeId} {k : IntKind} (w : World) (x y : Int) (h : P.underlying t = some (.int k)) : (binOp .geq t (.int k x) (.int k y)).run P w = .ok (.bool (decide (y ≤ x))) w := by
  simp [binOp, Op.intCmp]
theorem guard_ints {t : TypeId} {k : IntKind} (op : BinOp) (x y : Operand) (a b : Int) (w : World) : (eqGuard op t x y (.int k a) (.int k b)).run P w = .ok () w := by
  cases op <;> simp [eqGuard]
end
section
variable {κ ν : Type} [DecidableEq κ]
theorem mhas_nil (a : κ) : mhas ([] : List (κ × ν)) a = false := rfl
theorem mhas_cons (x : κ) (y : ν) (l : List (κ × ν)) (a : κ) : mhas ((x, y) :: l) a = (decide (x = a) || mhas l a) := by
  unfold mhas
  rw [mlook_cons]
  by_cases h : x = a <;> simp [h]
theorem mhas_put (l : List (κ × ν)) (a b : κ) (v : ν) : mhas (mput l a v) b = (decide (a = b) || mhas l b) := by
  unfold mhas
  rw [mlook_put]
  by_cases h : a = b <;> simp [h]
end
end Go.Gv
