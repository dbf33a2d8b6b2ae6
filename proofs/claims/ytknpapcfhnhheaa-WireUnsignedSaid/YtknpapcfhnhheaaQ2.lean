/- Single operations for wp_region_Q: calls of function values, parts of results, slices' rows, appends of things. No program here. -/
import Derived.Test.YtknpapcfhnhheaaQ
import Derived.Test.YtknpapcfhnhheaaRep
import Derived.Test.YtknpapcfhnhheaaIdx
import Derived.Test.YtknpapcfhnhheaaArith
import Derived.Laws.Small
set_option linter.unusedVariables false
namespace Go.Gv
open Go Go.RowKit

section
variable {P : Program} {ops : Array Oper} {Q : Exit → Act → World → Prop} {i : Nat} {o : Oper} {a : Act} {w : World} {KQ : Value → World → Prop}
theorem ex_callV {x : Operand} {F : FuncId} {xs : Array Operand} {ts : Array TypeId} (ho : o.op = .call { callee := .value x, args := xs, argTypes := ts }) (hx : a.eval x = .func (.func F) #[] #[]) {fn : Func} (hf : P.funcs[F]? = some fn) (hn : (fn.name == "runtime.NumGoroutine") = false) (hb : fn.body.isNone = false) :
    (execOp a.eval o).run P w = .ok (.enter F (xs.map a.eval)) w := by
  have hn' : ¬ fn.name = "runtime.NumGoroutine" := by simpa using hn
  have hb' : ¬ fn.body = none := by intro e; rw [e] at hb; cases hb
  unfold execOp
  simp [ho, resolve, invoke, hx, Deferred.ofValue, callFunc, hf, hn', hb']
theorem ex_extract {x : Operand} {k : Nat} {vs : Array Value} {v : Value} (ho : o.op = .extract x k) (hx : a.eval x = .tuple vs) (hv : vs[k]? = some v) : (execOp a.eval o).run P w = .ok (.value v) w := by
  unfold execOp
  simp [ho, hx, Instr.extract, hv]
theorem ex_binE {op : BinOp} {t u : TypeId} {x y : Operand} {vx vy v v' : Value} (ho : o.op = .binOp op t x y u) (hx : a.eval x = vx) (hy : a.eval y = vy) (hg : (eqGuard op t x y vx vy).run P w = .ok () w) (hr : (binOp op t vx vy).run P w = .ok v w) (he : v = v') : (execOp a.eval o).run P w = .ok (.value v') w := by
  subst he; exact ex_bin ho hx hy hg hr
theorem ex_pickE {c x y : Operand} {b : Bool} {vx vy v : Value} (ho : o.op = .pick c x y) (hc : a.eval c = .bool b) (hx : a.eval x = vx) (hy : a.eval y = vy) (he : (if b then vx else vy) = v) : (execOp a.eval o).run P w = .ok (.value v) w := by
  subst he; exact ex_pick ho hc hx hy
theorem ex_convIE {src dst : TypeId} {x : Operand} {k k' : IntKind} {n m : Int} (ho : o.op = .convert src dst x) (hs : (P.underlying src).isSome = true) (hd : P.underlying dst = some (.int k')) (hx : a.eval x = .int k n) (he : k'.wrap n = m) : (execOp a.eval o).run P w = .ok (.value (.int k' m)) w := by
  subst he; exact ex_convI ho hs hd hx
theorem ex_min {x y : Operand} {ts : Array TypeId} {k k' : IntKind} {m n r : Int} (ho : o.op = .call { callee := .builtin .min, args := #[x, y], argTypes := ts }) (hx : a.eval x = .int k m) (hy : a.eval y = .int k' n) (he : (if n < m then n else m) = r) : (execOp a.eval o).run P w = .ok (.value (.int k r)) w := by
  subst he
  unfold execOp
  simp [ho, resolve, invoke, builtin, hx, hy, run_min_int2, Result.andThen]
theorem add_zero (a : Addr) : a.add 0 = a := by
  unfold Addr.add
  split <;> simp_all
theorem ex_sliceTo {T e : TypeId} {x y : Operand} {ao : Option Addr} {n cap i : Nat} {s : Nat} {k : IntKind} (ho : o.op = .slice T x none (some y) none) (hu : P.underlying T = some (.slice e)) (hs : (P.info? e).map (·.size) = some s) (hx : a.eval x = .slice ao n cap) (hy : a.eval y = .int k (i : Int)) (hi : i ≤ cap) :
    (execOp a.eval o).run P w = .ok (.value (.slice ao i cap)) w := by
  have hsz : (sizeOf e).run P w = .ok s w := by
    cases hq : P.info? e with
    | none => rw [hq] at hs; cases hs
    | some i => rw [hq] at hs; simp [sizeOf, typeInfo, hq]; exact Option.some.inj hs
  have hm : (if cap = 0 then ao else ao.map (·.add (0 * s))) = ao := by
    split
    · rfl
    · cases ao with
      | none => rfl
      | some x => simp [add_zero]
  have hm2 : ao.map (fun x => x.add 0) = ao := by cases ao with | none => rfl | some x => simp [add_zero]
  unfold execOp
  simp [ho, hx, hy, Instr.sliceAt, Instr.slice, Instr.sliceBounds, Instr.sliceBound, asIntOf, run_underlying hu, hsz, hi]
  intro h0
  exact hm2
theorem size_of_info {e : TypeId} {z : Value} {s b : Nat} (h : (P.info? e).map (fun i => (i.zero, i.size, i.bytes)) = some (some z, s, b)) : (P.info? e).map (·.size) = some s := by
  cases hq : P.info? e with
  | none => rw [hq] at h; cases h
  | some i => rw [hq] at h; simp at h; simp [h.2.1]
/-- one of the chain appends things -/
theorem qc_appS {α : Type} {A : Rep α} {e t : TypeId} {R E R2 : Nat → Prop} {v xv : Value} {l new : List α} {s x : Operand} (ho : ops[i]? = some o) (hw : Region.wanted o (yielded ops a.tmps) = true) (hop : o.op = .call { callee := .builtin .append, args := #[s, x], argTypes := #[t, t] }) (z : Value) (bytes : Nat)
    (ht : P.underlying t = some (.slice e)) (hinfo : (P.info? e).map (fun i => (i.zero, i.size, i.bytes)) = some (some z, A.sz, bytes)) (hzs : z.cells.size = A.sz) (hzE : ∀ u ∈ z.cells.toList, u.oneCell' = true)
    (hs : a.eval s = v) (hx : a.eval x = xv) (hown : OwS A e R E w v l) (hrd : RdS A R2 w xv new) (hd : ∀ k, R2 k → R k → False) (hbytes : (l.length + new.length) * bytes ≤ 140737488355328) (h63 : l.length + new.length ≤ maxLen)
    (h : ∀ ao cap w', OwS A e (fun k => R k ∨ (w.heap.size ≤ k ∧ k < w'.heap.size)) (fun k => E k ∨ R2 k) w' (.slice ao (l.length + new.length) cap) (l ++ new) → Mod R w w' → KQ (.slice ao (l.length + new.length) cap) w') : wpOp P ops Q i (fun a' w' => ∃ v, a' = a.put o.dst v ∧ KQ v w') a w := by
  obtain ⟨ao, cap, w', hr, h1, h2⟩ := run_appS (P := P) w t o.type e z bytes ht hinfo hzs hzE hown hrd (fun k hk he => by obtain ⟨_, _, _, _, h5⟩ := hown; exact hd k hk (h5 k he)) hbytes h63
  exact qc_run ho hw (ex_append hop hs hx hr) (h ao cap w' h1 h2)
/-- one of the chain makes a row of one thing -/
theorem qc_buildS {e t : TypeId} {y : Operand} {cs zc : List Value} {sz : Nat} (ho : ops[i]? = some o) (hw : Region.wanted o (yielded ops a.tmps) = true) (hop : o.op = .buildSlice t 1 #[(0, y)]) (hu : P.underlying t = some (.slice e)) (hie : (P.info? e).map (fun i => (i.size, i.zero)) = some (sz, some (.agg zc.toArray))) (hz : zc.length = sz) (h0 : 0 < sz) (hb : sz ≤ 1000) (hy : a.eval y = .agg cs.toArray) (hl : cs.length = sz)
    (h : ∀ w', Cs w' w.heap.size cs.toArray e → Mod (fun _ => False) w w' → KQ (.slice (some ⟨w.heap.size, 0, none⟩) 1 1) w') : wpOp P ops Q i (fun a' w' => ∃ v, a' = a.put o.dst v ∧ KQ v w') a w :=
  qc_run ho hw (ex_buildS1 hop hu hie hz h0 hb hy hl) (h _ (Cs.new _ _ _) ((Mod.refl _ _).alloc _))
end
end Go.Gv
