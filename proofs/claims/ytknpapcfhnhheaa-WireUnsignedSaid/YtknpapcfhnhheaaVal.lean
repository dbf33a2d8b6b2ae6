/- A region that draws its order and turns nothing that stood before: each operation has a value of which V speaks, in whatever order. No program here. -/
import Derived.Test.YtknpapcfhnhheaaInv2
set_option linter.unusedVariables false
namespace Go.Gv
open Go Go.RowKit

section
variable {P : Program} {ops : Array Oper} {Q : Exit → Act → World → Prop}

/-- what is to be shown of an operation: e: what is known of those that it comes behind -/
def StepV (P : Program) (ops : Array Oper) (Q : Exit → Act → World → Prop) (a0 : Act) (w0 : World) (ss : List Nat) (V : Nat → Value → World → Prop) (i : Nat) (o : Oper) : Prop :=
  ∀ a w, Mod (fun _ => False) w0 w → (∀ t, t ∉ ss → a.eval (.tmp t) = a0.eval (.tmp t)) → (∀ s ∈ ss, s < a.tmps.size) →
    (∀ e ∈ o.after, Region.binds .any e = true → ∃ s, ss[e.on]? = some s ∧ V e.on (a.eval (.tmp s)) w) →
    wpOp P ops Q i (fun a' w' => ∃ v, a' = a.put o.dst v ∧ Mod (fun _ => False) w w' ∧ V i v w') a w

theorem wp_region_V {d : Bool} {id : Nat} {a0 : Act} {w0 : World} (hm : P.follows .mixedOrders = true) (hac : backward ops = true) (ss : List Nat) (hss : ops.toList.map (·.dst) = ss.map some) (hnd : ss.Nodup) (hsz : ∀ s ∈ ss, s < a0.tmps.size)
    (V : Nat → Value → World → Prop) (stable : ∀ i v w w', V i v w → Mod (fun _ => False) w w' → V i v w')
    (step : Each (StepV P ops Q a0 w0 ss V) 0 ops.toList)
    (fin : ∀ vs w, vs.length = ss.length → Mod (fun _ => False) w0 w → (∀ p v, vs[p]? = some v → V p v w) → Q .normal (putAll a0 ss vs) w) : (Code.region id ops d).wp P Q a0 w0 := by
  have hlen : ss.length = ops.size := by have := congrArg List.length hss; simpa using this.symm
  have hget : ∀ (i : Nat) (o : Oper), ops[i]? = some o → ∃ s, ss[i]? = some s ∧ o.dst = some s := by
    intro i o ho
    have h1 : (ops.toList.map (·.dst))[i]? = some o.dst := by rw [List.getElem?_map]; simp [ho]
    rw [hss, List.getElem?_map] at h1
    cases hs : ss[i]? with
    | none => rw [hs] at h1; cases h1
    | some s => rw [hs] at h1; exact ⟨s, rfl, (Option.some.inj h1).symm⟩
  refine wp_region_both hm (backward_spec hac) ss (fun L vs w => Mod (fun _ => False) w0 w ∧ ∀ p v, L p = true → vs[p]? = some v → V p v w) ⟨Mod.refl _ _, fun p v h => by cases h⟩ ⟨(Mod.refl _ _).drew, fun p v h => by cases h⟩ ?_ ?_
  · rintro i o ho L vs w hL hd hl ⟨hmod, hV⟩
    have hst := Each.get _ 0 step i o (by simpa using ho)
    rw [Nat.zero_add] at hst
    obtain ⟨s, hs, hds⟩ := hget i o ho
    refine wpOp_mono ?_ (hst (putAll a0 ss vs) w hmod (fun t ht => eval_out _ _ _ _ ht) (fun t ht => by rw [putAll_size]; exact hsz t ht) (fun e he hb => ?_))
    · rintro a' w' ⟨v, rfl, hm', hv⟩
      refine ⟨vs.set i v, ?_, by simpa using hl, hmod.trans hm' (fun _ _ h => h), fun p u hp hu => ?_⟩
      · rw [hds]
        exact putAll_put _ _ _ i s v hnd hl hs
      · by_cases e : p = i
        · subst e
          rw [List.getElem?_set_self' ] at hu
          have hlt : p < vs.length := by rw [hl]; exact (List.getElem?_eq_some_iff.1 hs).1
          rw [List.getElem?_eq_getElem hlt] at hu
          simp at hu
          subst hu
          exact hv
        · rw [List.getElem?_set_ne (Ne.symm e)] at hu
          unfold upd at hp
          rw [if_neg e] at hp
          exact stable _ _ _ _ (hV p u hp hu) hm'
    · have hLe := hd e he hb
      have hlt := backward_spec hac i o ho e he hb
      have hil : i < ss.length := (List.getElem?_eq_some_iff.1 hs).1
      have hej : e.on < ss.length := by omega
      refine ⟨ss[e.on], List.getElem?_eq_getElem hej, ?_⟩
      have hvl : e.on < vs.length := by omega
      rw [eval_in a0 ss vs e.on ss[e.on] vs[e.on] hnd hl (List.getElem?_eq_getElem hej) (hsz _ (List.getElem_mem hej)) (List.getElem?_eq_getElem hvl)]
      exact hV _ _ hLe (List.getElem?_eq_getElem hvl)
  · rintro L vs w hL hl ⟨hmod, hV⟩
    refine fin vs w hl hmod fun p v hv => hV p v (hL p ?_) hv
    have := (List.getElem?_eq_some_iff.1 hv).1
    omega

variable {i : Nat} {o : Oper} {a : Act} {w w' : World} {V : Nat → Value → World → Prop}
theorem wanted_of {j s : Nat} {b want : Bool} (hg : o.guard = some (j, want)) (hj : (ops[j]?).bind (·.dst) = some s) (hs : s < a.tmps.size) (he : a.eval (.tmp s) = .bool b) : Region.wanted o (yielded ops a.tmps) = (b == want) := by
  have h1 : a.tmps[s]? = some (.bool b) := by
    simp only [Act.eval, Array.getD_eq_getD_getElem?, Array.getElem?_eq_getElem hs, Option.getD_some] at he
    rw [Array.getElem?_eq_getElem hs, he]
  unfold Region.wanted
  rw [hg]
  simp only [yielded, hj, Option.bind_some, h1]
  rfl
theorem wanted_none (hg : o.guard = none) : Region.wanted o (yielded ops a.tmps) = true := by simp [Region.wanted, hg]
theorem sv_run (ho : ops[i]? = some o) (hw : Region.wanted o (yielded ops a.tmps) = true) {v : Value} (hr : (execOp a.eval o).run P w = .ok (.value v) w') (hm : Mod (fun _ => False) w w') (hv : V i v w') :
    wpOp P ops Q i (fun a' w' => ∃ v, a' = a.put o.dst v ∧ Mod (fun _ => False) w w' ∧ V i v w') a w := by
  refine wpOp_step ho fun K' hK' => ?_
  rw [if_pos hw]
  unfold Oper.wp
  rw [hr]
  exact hK' _ _ ⟨v, rfl, hm, hv⟩
theorem sv_skip (ho : ops[i]? = some o) (hw : Region.wanted o (yielded ops a.tmps) = false) (hv : V i undef w) :
    wpOp P ops Q i (fun a' w' => ∃ v, a' = a.put o.dst v ∧ Mod (fun _ => False) w w' ∧ V i v w') a w := by
  refine wpOp_step ho fun K' hK' => ?_
  rw [if_neg (by rw [hw]; decide)]
  exact hK' _ _ ⟨undef, rfl, Mod.refl _ _, hv⟩
theorem sv_call (ho : ops[i]? = some o) (hw : Region.wanted o (yielded ops a.tmps) = true) {f : FuncId} {args : Array Value} {post : Ending → World → Prop} (hr : (execOp a.eval o).run P w = .ok (.enter f args) w) (hc : Calls P f args w post)
    (hp : ∀ e w', post e w' → ∃ v, e = .returned v ∧ Mod (fun _ => False) w w' ∧ V i v w') : wpOp P ops Q i (fun a' w' => ∃ v, a' = a.put o.dst v ∧ Mod (fun _ => False) w w' ∧ V i v w') a w := by
  refine wpOp_step ho fun K' hK' => ?_
  rw [if_pos hw]
  unfold Oper.wp
  rw [hr]
  exact hc.mono fun e w' he => by
    obtain ⟨v, rfl, hm, hv⟩ := hp e w' he
    exact hK' _ _ ⟨v, rfl, hm, hv⟩

theorem ex_assign {x : Operand} {v : Value} (ho : o.op = .assign x) (hx : a.eval x = v) : (execOp a.eval o).run P w = .ok (.value v) w := by
  unfold execOp; simp [ho, hx]
theorem ex_pick {c x y : Operand} {b : Bool} {vx vy : Value} (ho : o.op = .pick c x y) (hc : a.eval c = .bool b) (hx : a.eval x = vx) (hy : a.eval y = vy) : (execOp a.eval o).run P w = .ok (.value (if b then vx else vy)) w := by
  unfold execOp; simp [ho, hc, hx, hy, asBool]
theorem ex_not {t : TypeId} {x : Operand} {b : Bool} (ho : o.op = .unOp .not t x) (hx : a.eval x = .bool b) : (execOp a.eval o).run P w = .ok (.value (.bool (!b))) w := by
  unfold execOp; simp [ho, hx, Op.unary]
theorem ex_bin {op : BinOp} {t u : TypeId} {x y : Operand} {vx vy v : Value} (ho : o.op = .binOp op t x y u) (hx : a.eval x = vx) (hy : a.eval y = vy) (hg : (eqGuard op t x y vx vy).run P w = .ok () w) (hr : (binOp op t vx vy).run P w = .ok v w) : (execOp a.eval o).run P w = .ok (.value v) w := by
  unfold execOp; simp [ho, hx, hy, hg, hr]
theorem ex_nil {x : Operand} {b : Addr} (ho : o.op = .nilCheck x) (hx : a.eval x = .pointer (some b)) : (execOp a.eval o).run P w = .ok (.value (.pointer (some b))) w := by
  unfold execOp; simp [ho, hx]

abbrev Pred := Value → World → Prop
def Stable (p : Pred) : Prop := ∀ v w w', p v w → Mod (fun _ => False) w w' → p v w'
def isv (x : Value) : Pred := fun v _ => v = x
def anyv : Pred := fun _ _ => True
theorem isv_stable {x : Value} : Stable (isv x) := fun _ _ _ h _ => h
theorem anyv_stable : Stable anyv := fun _ _ _ h _ => h
def AllStable : List Pred → Prop
  | [] => True
  | p :: r => Stable p ∧ AllStable r
theorem AllStable.get : ∀ (l : List Pred), AllStable l → ∀ i, Stable (l.getD i anyv)
  | [], _, _ => fun _ _ _ h _ => h
  | p :: r, h, 0 => h.1
  | p :: r, h, i + 1 => by simpa using AllStable.get r h.2 i
/-- what is to be shown of an operation, its predecessors by their slots -/
def StepL (P : Program) (ops : Array Oper) (Q : Exit → Act → World → Prop) (a0 : Act) (w0 : World) (ss : List Nat) (l : List Pred) (i : Nat) (o : Oper) : Prop :=
  ∀ a w, Mod (fun _ => False) w0 w → (∀ t, t ∉ ss → a.eval (.tmp t) = a0.eval (.tmp t)) → (∀ s ∈ ss, s < a.tmps.size) →
    (∀ e ∈ o.after, Region.binds .any e = true → (l.getD e.on anyv) (a.eval (.tmp (ss.getD e.on 0))) w) →
    wpOp P ops Q i (fun a' w' => ∃ v, a' = a.put o.dst v ∧ Mod (fun _ => False) w w' ∧ (l.getD i anyv) v w') a w
theorem Each.mono {S S' : Nat → Oper → Prop} (h : ∀ i o, S i o → S' i o) : ∀ (l : List Oper) (k : Nat), Each S k l → Each S' k l
  | [], _, _ => trivial
  | _ :: r, k, hE => ⟨h _ _ hE.1, Each.mono h r (k + 1) hE.2⟩
theorem wp_region_L {d : Bool} {id : Nat} {a0 : Act} {w0 : World} (hm : P.follows .mixedOrders = true) (hac : backward ops = true) (ss : List Nat) (hss : ops.toList.map (·.dst) = ss.map some) (hnd : ss.Nodup) (hsz : ∀ s ∈ ss, s < a0.tmps.size)
    (l : List Pred) (stable : AllStable l) (step : Each (StepL P ops Q a0 w0 ss l) 0 ops.toList)
    (fin : ∀ vs w, vs.length = ss.length → Mod (fun _ => False) w0 w → (∀ p v, vs[p]? = some v → (l.getD p anyv) v w) → Q .normal (putAll a0 ss vs) w) : (Code.region id ops d).wp P Q a0 w0 :=
  wp_region_V hm hac ss hss hnd hsz (fun i => l.getD i anyv) (fun i v w w' => AllStable.get l stable i v w w')
    (Each.mono (fun i o h a w h1 h2 h3 h4 => h a w h1 h2 h3 fun e he hb => by
      obtain ⟨s, hs, hv⟩ := h4 e he hb
      have e' : ss.getD e.on 0 = s := by rw [List.getD, hs]; rfl
      rw [e']
      exact hv) _ _ step) fin

section
variable {l : List Pred}
theorem lv_run (ho : ops[i]? = some o) (hw : Region.wanted o (yielded ops a.tmps) = true) {v : Value} (hr : (execOp a.eval o).run P w = .ok (.value v) w') (hm : Mod (fun _ => False) w w') (hv : (l.getD i anyv) v w') :
    wpOp P ops Q i (fun a' w' => ∃ v, a' = a.put o.dst v ∧ Mod (fun _ => False) w w' ∧ (l.getD i anyv) v w') a w := sv_run (V := fun i => l.getD i anyv) ho hw hr hm hv
theorem lv_skip (ho : ops[i]? = some o) (hw : Region.wanted o (yielded ops a.tmps) = false) (hv : (l.getD i anyv) undef w) :
    wpOp P ops Q i (fun a' w' => ∃ v, a' = a.put o.dst v ∧ Mod (fun _ => False) w w' ∧ (l.getD i anyv) v w') a w := sv_skip (V := fun i => l.getD i anyv) ho hw hv
theorem lv_call (ho : ops[i]? = some o) (hw : Region.wanted o (yielded ops a.tmps) = true) {f : FuncId} {args : Array Value} {post : Ending → World → Prop} (hr : (execOp a.eval o).run P w = .ok (.enter f args) w) (hc : Calls P f args w post)
    (hp : ∀ e w', post e w' → ∃ v, e = .returned v ∧ Mod (fun _ => False) w w' ∧ (l.getD i anyv) v w') : wpOp P ops Q i (fun a' w' => ∃ v, a' = a.put o.dst v ∧ Mod (fun _ => False) w w' ∧ (l.getD i anyv) v w') a w := sv_call (V := fun i => l.getD i anyv) ho hw hr hc hp
end
end
theorem list_cons {α : Type} {l : List α} {n : Nat} (h : l.length = n + 1) : ∃ x t, l = x :: t ∧ t.length = n := by
  cases l with
  | nil => simp at h
  | cons x t => exact ⟨x, t, rfl, by simpa using h⟩
theorem list_nil {α : Type} {l : List α} (h : l.length = 0) : l = [] := List.eq_nil_of_length_eq_zero h
theorem run_eql_bools {P : Program} {t : TypeId} (w : World) (x y : Bool) (h : P.underlying t = some .bool) : (binOp .eql t (.bool x) (.bool y)).run P w = .ok (.bool (x == y)) w := by
  have e : ∀ d : Nat, (Op.equalIn (d + 1) t (.bool x) (.bool y)).run P w = .ok (x == y) w := fun d => by simp [Op.equalIn, run_underlying h]
  simp only [binOp]
  simp [Op.equal, Op.maxDepth, e 9999]
theorem run_neq_bools {P : Program} {t : TypeId} (w : World) (x y : Bool) (h : P.underlying t = some .bool) : (binOp .neq t (.bool x) (.bool y)).run P w = .ok (.bool (!(x == y))) w := by
  have e : ∀ d : Nat, (Op.equalIn (d + 1) t (.bool x) (.bool y)).run P w = .ok (x == y) w := fun d => by simp [Op.equalIn, run_underlying h]
  simp only [binOp]
  simp [Op.equal, Op.maxDepth, e 9999]
theorem guard_bools {P : Program} {t : TypeId} (op : BinOp) (x y : Operand) (a b : Bool) (w : World) : (eqGuard op t x y (.bool a) (.bool b)).run P w = .ok () w := by
  cases op <;> simp [eqGuard]
end Go.Gv
