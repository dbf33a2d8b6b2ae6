/- Texts that are built one behind the other: XQ4, XQ5, XS, XNi, XSha1, XSha2, XSha3, XSha4, XActs, XRef1, XLoc, XPlain2, XOwV, XNums, XSha5, XWc, XCm1, XCm2, XSet0, XTy, XSeg, XPt1, XGp, XRead2, XRead3, XRead4, XRead5, XGl, XZr, XPt2, XPt3, XJoin, XQ3, XMg, XZm, XNt0, XCut1, XCut2. No condition. -/
import Derived.Test.YtekbmpjdombedaaNpP1
import Derived.IntWalk
import Derived.Deep.Cut
import Derived.Deep.RegionHeld3
import Derived.OpenShut
import Derived.Lib.ConvBytes
import Derived.Lib.SliceRun
set_option maxRecDepth 100000
set_option linter.unusedVariables false
open List renaming setIfInBounds_toArray → sIB, set_cons_zero → sCZ, set_cons_succ → sCS
/- Short forms for printed walks: facts carried over a whole chain at once, single operations, regions without new variables. No program here. -/
namespace Go.Gv
open Go Go.RowKit

theorem hid {p : Prop} (h : p) : Hid p := h
/-- a chain's steps, told at once: S: what of old they may turn -/
theorem Mod.new {S : Nat → Prop} {w a : World} (h : Mod (fun j => w.heap.size ≤ j) w a) : Mod S w a := h.mono fun k hk h => absurd hk (Nat.not_lt.2 h)
theorem Mod.goR {S R : Nat → Prop} {w a c : World} (h : Mod S w a) (hr : Mod (fun j => w.heap.size ≤ j ∧ R j) a c) : Mod S w c :=
  h.trans hr fun k hk h => absurd hk (Nat.not_lt.2 h.1)
theorem Mod.goM {S T R : Nat → Prop} {w a b c : World} (h : Mod S w a) (hm : Mod T a b) (hr : Mod (fun j => w.heap.size ≤ j ∧ R j) b c) (hs : ∀ k, k < w.heap.size → T k → S k) : Mod S w c :=
  (h.trans hm hs).goR hr
theorem Mod.go {S R : Nat → Prop} {w a b c : World} (h : Mod S w a) (hm : Mod (fun _ => False) a b) (hr : Mod (fun j => w.heap.size ≤ j ∧ R j) b c) : Mod S w c :=
  h.goM hm hr fun _ _ h => h.elim
theorem Mod.old {w a : World} (h : Mod (fun j => (j < w.heap.size ∧ False) ∨ w.heap.size ≤ j) w a) : Mod (fun j => w.heap.size ≤ j) w a := h.mono fun _ _ h => h.elim (fun h => h.2.elim) (fun h => h)
theorem chv {v x : Value} (h : some v = some x) : x = v := (Option.some.inj h).symm
theorem list_eta {vs : List Value} {n : Nat} (hl : vs.length = n) : vs = (List.range n).map fun i => vs.getD i undef := by
  subst hl
  refine List.ext_getElem? fun i => ?_
  rcases Nat.lt_or_ge i vs.length with h | h
  · simp [List.getD_eq_getElem?_getD, h]
  · simp [h]
theorem getq {vs : List Value} {n p : Nat} (hl : vs.length = n) (h : p < n) : vs[p]? = some (vs.getD p undef) := by
  subst hl
  simp [List.getD_eq_getElem?_getD, h]
section
variable {β : Type} {f : Operand → β}
theorem args0 : (#[] : Array Operand).map f = #[] := by simp
theorem args1 {x1 : Operand} {a1 : β} (h1 : f x1 = a1) : #[x1].map f = #[a1] := by rw [← h1]; simp
theorem args2 {x1 x2 : Operand} {a1 a2 : β} (h1 : f x1 = a1) (h2 : f x2 = a2) : #[x1, x2].map f = #[a1, a2] := by rw [← h1, ← h2]; simp
theorem args3 {x1 x2 x3 : Operand} {a1 a2 a3 : β} (h1 : f x1 = a1) (h2 : f x2 = a2) (h3 : f x3 = a3) : #[x1, x2, x3].map f = #[a1, a2, a3] := by rw [← h1, ← h2, ← h3]; simp
end
section
variable {P : Program} {ops : Array Oper} {Q : Exit → Act → World → Prop} {a0 : Act} {w0 : World} {n : Nat} {ss : List Nat} {S0 : Nat → Prop} {SS : Nat → Nat → Prop} {l : List QPred} {c : List Nat} {al : List QRow} {i : Nat} {o : Oper}
/-- what is known where an operation beside the chain stands -/
structure StE (ops : Array Oper) (a0 : Act) (w0 : World) (n : Nat) (ss : List Nat) (S0 : Nat → Prop) (SS : Nat → Nat → Prop) (l : List QPred) (c : List Nat) (i : Nat) (o : Oper) (Z : Nat → Prop) (t : List Value) (a : Act) (w : World) : Prop where
  inZ : ∀ j, Z j → w0.heap.size ≤ j ∧ j < w.heap.size
  m : Mod (fun j => (j < w0.heap.size ∧ S0 j) ∨ w0.heap.size ≤ j) w0 w
  m0 : Mod (fun j => (j < w0.heap.size ∧ ∃ k, k < t.length ∧ SS k j) ∨ w0.heap.size ≤ j) w0 w
  out : ∀ t, t ∉ ss → a.eval (.tmp t) = a0.eval (.tmp t)
  sz : ∀ s, s < n → s < a.tmps.size
  on : ∀ e ∈ o.after, Region.binds .any e = true → ∀ s, (ops[e.on]?).bind (·.dst) = some s → (l.getD e.on qa) Z t (a.eval (.tmp s)) w
  ub : ∀ k q, c[k]? = some q → (clo ops ops.size (afterOf ops q)).contains i = true → t.length ≤ k
  pre : ∀ j s, (ops[j]?).bind (·.dst) = some s → (clo ops ops.size (afterOf ops j)).contains i = true → a.eval (.tmp s) = a0.eval (.tmp s)
theorem StE.v {Z : Nat → Prop} {t : List Value} {a : Act} {w : World} (E : StE ops a0 w0 n ss S0 SS l c i o Z t a w) {k : Nat} {v : Value} (h : a0.eval (.tmp k) = v) (hk : k ∉ ss := by decide) : a.eval (.tmp k) = v := (E.out k hk).trans h
theorem StE.e {Z : Nat → Prop} {t : List Value} {a : Act} {w : World} (E : StE ops a0 w0 n ss S0 SS l c i o Z t a w) (k : Nat) (g : Ground) {s : Nat} (h : (⟨k, g⟩ : Edge) ∈ o.after := by simp) (hb : Region.binds .any ⟨k, g⟩ = true := by rfl) (hs : (ops[k]?).bind (·.dst) = some s := by rfl) : (l.getD k qa) Z t (a.eval (.tmp s)) w := E.on ⟨k, g⟩ h hb s hs
theorem StE.d {Z : Nat → Prop} {t : List Value} {a : Act} {w : World} (E : StE ops a0 w0 n ss S0 SS l c i o Z t a w) (k : Nat) {s : Nat} (h : (⟨k, .data⟩ : Edge) ∈ o.after := by simp) (hs : (ops[k]?).bind (·.dst) = some s := by rfl) : (l.getD k qa) Z t (a.eval (.tmp s)) w := E.on ⟨k, .data⟩ h rfl s hs
/-- where one of the chain stands -/
structure ChE (ops : Array Oper) (a0 : Act) (n : Nat) (ss : List Nat) (B : Nat) (l : List QPred) (i : Nat) (o : Oper) (Y : Nat → Prop) (Z : Nat → Prop) (t : List Value) (a : Act) (w : World) : Prop where
  YZ : ∀ j, Y j → Z j
  inZ : ∀ j, Z j → B ≤ j ∧ j < w.heap.size
  out : ∀ t, t ∉ ss → a.eval (.tmp t) = a0.eval (.tmp t)
  sz : ∀ s, s < n → s < a.tmps.size
  on : ∀ e ∈ o.after, Region.binds .any e = true → ∀ s, (ops[e.on]?).bind (·.dst) = some s → (l.getD e.on qa) Z t (a.eval (.tmp s)) w
  pre : ∀ j s, (ops[j]?).bind (·.dst) = some s → (clo ops ops.size (afterOf ops j)).contains i = true → a.eval (.tmp s) = a0.eval (.tmp s)
theorem ChE.v {B : Nat} {Y Z : Nat → Prop} {t : List Value} {a : Act} {w : World} (E : ChE ops a0 n ss B l i o Y Z t a w) {k : Nat} {v : Value} (h : a0.eval (.tmp k) = v) (hk : k ∉ ss := by decide) : a.eval (.tmp k) = v := (E.out k hk).trans h
theorem ChE.e {B : Nat} {Y Z : Nat → Prop} {t : List Value} {a : Act} {w : World} (E : ChE ops a0 n ss B l i o Y Z t a w) (k : Nat) (g : Ground) {s : Nat} (h : (⟨k, g⟩ : Edge) ∈ o.after := by simp) (hb : Region.binds .any ⟨k, g⟩ = true := by rfl) (hs : (ops[k]?).bind (·.dst) = some s := by rfl) : (l.getD k qa) Z t (a.eval (.tmp s)) w := E.on ⟨k, g⟩ h hb s hs
theorem ChE.d {B : Nat} {Y Z : Nat → Prop} {t : List Value} {a : Act} {w : World} (E : ChE ops a0 n ss B l i o Y Z t a w) (k : Nat) {s : Nat} (h : (⟨k, .data⟩ : Edge) ∈ o.after := by simp) (hs : (ops[k]?).bind (·.dst) = some s := by rfl) : (l.getD k qa) Z t (a.eval (.tmp s)) w := E.on ⟨k, .data⟩ h rfl s hs
theorem QChain.go {B : Nat} {Y : Nat → Prop} {k : Nat} {t : List Value} {w : World} (h : ∀ Z a, ChE ops a0 n ss B l i o Y Z t a w → wpOp P ops Q i (fun a' w' => ∃ v, a' = a.put o.dst v ∧ QPost P ops Q a0 n ss B S0 SS l al i c k Y t w v w') a w) (ho : ops[i]? = some o := by rfl) : QChain P ops Q a0 n ss B S0 SS l al (i :: c) k Y t w :=
  QChain.cons ho fun Z a h1 h2 h3 h4 h5 h6 => h Z a ⟨h1, h2, h3, h4, h5, h6⟩
theorem stq {v : Value} (hs : ∀ {Z : Nat → Prop} {t : List Value} {a : Act} {w : World}, StE ops a0 w0 n ss S0 SS l c i o Z t a w → (execOp a.eval o).run P w = .ok (.value v) w) (ho : ops[i]? = some o := by rfl) (hg : o.guard = none := by rfl) (hv : l.getD i qa = qi v := by rfl)
    (h : c.contains i = false := by rfl) (h0 : al.find? (fun r => r.a == i) = none := by rfl) (h1 : al.find? (fun r => r.s == i) = none := by rfl) : StepQ P ops Q a0 w0 n ss S0 SS l c al i o :=
  stepq_env h h0 h1 fun Z t a w k1 k2 k3 k4 k5 k6 k7 k8 => qe_run ho (wanted_none hg) (hs ⟨k1, k2, k3, k4, k5, k6, k7, k8⟩) QE.refl (by rw [hv]; rfl)
def gw (vs : List Value) (i : Nat) : Value := vs.getD i undef
theorem gw_eta {vs : List Value} {n : Nat} (hl : vs.length = n) : vs = (List.range n).map fun i => gw vs i := list_eta hl
theorem fvi {Z : Nat → Prop} {t : List Value} {w : World} {vs : List Value} {m : Nat} {x : Value} (hV : ∀ p v, vs[p]? = some v → (l.getD p qa) Z t v w) (hl : vs.length = m) (p : Nat) (hp : p < m := by decide) (he : l.getD p qa = qi x := by rfl) : gw vs p = x := by
  have h := hV p _ (getq hl hp)
  rw [he] at h
  exact h
theorem fvc {Z : Nat → Prop} {t : List Value} {w : World} {vs : List Value} {m k : Nat} {x : Value} (hV : ∀ p v, vs[p]? = some v → (l.getD p qa) Z t v w) (hl : vs.length = m) (p : Nat) (hp : p < m := by decide) (he : l.getD p qa = qv k := by rfl) (hx : t[k]? = some x := by rfl) : gw vs p = x := by
  have h := hV p _ (getq hl hp)
  rw [he] at h
  exact (Option.some.inj (hx.symm.trans h)).symm
/-- a region without new variables -/
theorem wp_region_Q1 {d : Bool} {id : Nat} (n : Nat) (hn : a0.tmps.size = n) (ss : List Nat)
    (S0 : Nat → Prop) (SS : Nat → Nat → Prop) (hSS : ∀ k j, SS k j → S0 j) (l : List QPred) (stable : AllQ w0.heap.size S0 l) (c : List Nat)
    (step : Each (StepQ P ops Q a0 w0 n ss S0 SS l c []) 0 ops.toList)
    (start : ∀ w1, Mod (fun j => w0.heap.size ≤ j) w0 w1 → QChain P ops Q a0 n ss w0.heap.size S0 SS l [] c 0 (fun _ => False) [] w1)
    (hm : P.follows .mixedOrders = true := by kernel_rfl) (hac : backward ops = true := by kernel_rfl) (hss : okSlots ops n ss = true := by kernel_rfl) (hnd : ss.Nodup := by decide) (hlk : linked ops c = true := by kernel_rfl) (hcn : c.Nodup := by decide) (hcs : (c.all fun i => decide (i < ops.size)) = true := by kernel_rfl) : (Code.region id ops d).wp P Q a0 w0 :=
  wp_region_Q n hn hm hac ss hss hnd S0 SS hSS l stable c hlk hcn hcs [] rfl (fun r hr => by cases hr) (fun r hr => by cases hr) (fun r hr => by cases hr) step start
/-- one that turns nothing of old -/
theorem wp_region_Q0 {d : Bool} {id : Nat} (n : Nat) (hn : a0.tmps.size = n) (ss : List Nat) (l : List QPred) (stable : AllQ w0.heap.size (fun _ => False) l) (c : List Nat)
    (step : Each (StepQ P ops Q a0 w0 n ss (fun _ => False) (fun _ _ => False) l c []) 0 ops.toList)
    (start : ∀ w1, Mod (fun j => w0.heap.size ≤ j) w0 w1 → QChain P ops Q a0 n ss w0.heap.size (fun _ => False) (fun _ _ => False) l [] c 0 (fun _ => False) [] w1)
    (hm : P.follows .mixedOrders = true := by kernel_rfl) (hac : backward ops = true := by kernel_rfl) (hss : okSlots ops n ss = true := by kernel_rfl) (hnd : ss.Nodup := by decide) (hlk : linked ops c = true := by kernel_rfl) (hcn : c.Nodup := by decide) (hcs : (c.all fun i => decide (i < ops.size)) = true := by kernel_rfl) : (Code.region id ops d).wp P Q a0 w0 :=
  wp_region_Q1 n hn ss _ _ (fun _ _ h => h) l stable c step start hm hac hss hnd hlk hcn hcs
theorem qc_callF {KQ : Value → World → Prop} {a : Act} {w : World} {F : FuncId} {xs : Array Operand} {ts : Array TypeId} {args : Array Value} {post : Ending → World → Prop} {fn : Func} (ho : ops[i]? = some o) (hw : Region.wanted o (yielded ops a.tmps) = true) (hop : o.op = .call { callee := .value (.func F), args := xs, argTypes := ts })
    (hf : P.funcs[F]? = some fn) (ha : xs.map a.eval = args) (hcl : Calls P F args w post) (hp : ∀ e w', post e w' → ∃ v, e = .returned v ∧ KQ v w') (hn : (fn.name == "runtime.NumGoroutine") = false := by kernel_rfl) (hb : fn.body.isNone = false := by kernel_rfl) : wpOp P ops Q i (fun a' w' => ∃ v, a' = a.put o.dst v ∧ KQ v w') a w :=
  qc_call ho hw (by rw [ex_callF hop hf hn hb, ha]) hcl hp
theorem qe_callF {B : Nat} {Z : Nat → Prop} {t : List Value} {a : Act} {w : World} {F : FuncId} {xs : Array Operand} {ts : Array TypeId} {args : Array Value} {post : Ending → World → Prop} {fn : Func} (ho : ops[i]? = some o) (hw : Region.wanted o (yielded ops a.tmps) = true) (hop : o.op = .call { callee := .value (.func F), args := xs, argTypes := ts })
    (hf : P.funcs[F]? = some fn) (ha : xs.map a.eval = args) (hcl : Calls P F args w post) (hp : ∀ e w', post e w' → ∃ v, e = .returned v ∧ QE B Z w w' ∧ (l.getD i qa) Z t v w') (hn : (fn.name == "runtime.NumGoroutine") = false := by kernel_rfl) (hb : fn.body.isNone = false := by kernel_rfl) : wpOp P ops Q i (QJ B l Z i o t a w) a w :=
  qe_call ho hw (by rw [ex_callF hop hf hn hb, ha]) hcl hp
end
end Go.Gv

/- Answers of the chain of which more is known than what they are: new variables that are written whole with them. No program here. -/
namespace Go.Gv
open Go Go.RowKit

end Go.Gv

/- A region that keeps its order, told operation by operation. No program here. -/
namespace Go.Gv
open Go Go.RowKit

theorem putAll_snoc : ∀ (ss : List Nat) (t : List Value) (a : Act) (s : Nat) (v : Value), ss[t.length]? = some s → (putAll a ss t).put (some s) v = putAll a ss (t ++ [v])
  | [], t, a, s, v, h => by simp at h
  | s :: ss, [], a, s', v, h => by
    simp only [List.length_nil, List.getElem?_cons_zero, Option.some.injEq] at h
    subst h
    cases ss <;> rfl
  | s :: ss, u :: t, a, s', v, h => by
    simp only [List.length_cons, List.getElem?_cons_succ] at h
    simp only [List.cons_append, putAll]
    exact putAll_snoc ss t _ s' v h
theorem putAll_take : ∀ (ss : List Nat) (t : List Value) (a : Act), putAll a ss t = putAll a (ss.take t.length) t
  | [], t, a => by simp
  | s :: ss, [], a => rfl
  | s :: ss, u :: t, a => by
    simp only [List.length_cons, List.take_succ_cons, putAll]
    exact putAll_take ss t _
theorem putAll_at : ∀ (ss : List Nat) (t : List Value) (a : Act) (p s : Nat) (v : Value), ss.Nodup → ss[p]? = some s → t[p]? = some v → s < a.tmps.size → (putAll a ss t).tmps[s]? = some v
  | [], t, a, p, s, v, hn, h, hv, hs => by simp at h
  | s :: ss, [], a, p, s', v, hn, h, hv, hs => by simp at hv
  | s :: ss, u :: t, a, 0, s', v, hn, h, hv, hs => by
    simp only [List.getElem?_cons_zero, Option.some.injEq] at h hv
    subst h hv
    simp only [putAll]
    rw [putAll_out ss t _ s (List.nodup_cons.1 hn).1, put_tmps]
    simp [hs]
  | s :: ss, u :: t, a, p + 1, s', v, hn, h, hv, hs => by
    simp only [List.getElem?_cons_succ] at h hv
    simp only [putAll]
    exact putAll_at ss t _ p s' v (List.nodup_cons.1 hn).2 h hv (by simpa [put_tmps] using hs)
/-- what is known of the frame where an operation stands: t: the answers of those ahead of it, the last one first -/
structure SqE (a0 : Act) (n : Nat) (ss : List Nat) (t : List Value) (a : Act) : Prop where
  out : ∀ s : Nat, s ∉ ss → a.eval (.tmp s) = a0.eval (.tmp s)
  sz : ∀ s : Nat, s < n → s < a.tmps.size
  on : ∀ (k p s : Nat) (v : Value), ss[k]? = some s → t[p]? = some v → p + k + 1 = t.length → s < n → a.eval (.tmp s) = v
  yet : ∀ (k s : Nat), t.length ≤ k → ss[k]? = some s → a.eval (.tmp s) = a0.eval (.tmp s)
section
variable {P : Program} {ops : Array Oper} {Q : Exit → Act → World → Prop} {a0 : Act} {n : Nat} {ss : List Nat} {c : List Nat} {i : Nat} {o : Oper} {t : List Value} {w w' : World} {a : Act}
theorem SqE.v (E : SqE a0 n ss t a) {k : Nat} {v : Value} (h : a0.eval (.tmp k) = v) (hk : k ∉ ss := by decide) : a.eval (.tmp k) = v := (E.out k hk).trans h
theorem SqE.y (E : SqE a0 n ss t a) (k : Nat) {s : Nat} {v : Value} (h : a0.eval (.tmp s) = v) (hs : ss[k]? = some s := by rfl) (hk : Nat.ble t.length k = true := by rfl) : a.eval (.tmp s) = v := (E.yet k s (Nat.le_of_ble_eq_true hk) hs).trans h
theorem SqE.d (E : SqE a0 n ss t a) (k p : Nat) {s : Nat} {v : Value} (hs : ss[k]? = some s := by rfl) (hv : t[p]? = some v := by rfl) (hp : p + k + 1 = t.length := by rfl) (hn : s < n := by decide) : a.eval (.tmp s) = v := E.on k p s v hs hv hp hn
theorem SqE.q (E : SqE a0 n ss t a) (k p : Nat) {s : Nat} {v x : Value} {b : Bool} (h : (b = true → v = x) ∧ (b = false → v = undef)) (hs : ss[k]? = some s := by rfl) (hv : t[p]? = some v := by rfl) (hp : p + k + 1 = t.length := by rfl) (hn : s < n := by decide) : (b = true → a.eval (.tmp s) = x) ∧ (b = false → a.eval (.tmp s) = undef) := by
  rw [E.on k p s v hs hv hp hn]
  exact h
def QSeq (P : Program) (ops : Array Oper) (Q : Exit → Act → World → Prop) (a0 : Act) (n : Nat) (ss : List Nat) : List Nat → List Value → World → Prop
  | [], t, w => Q .normal (putAll a0 ss t.reverse) w
  | i :: c, t, w => ∀ a, SqE a0 n ss t a → wpOp P ops Q i (fun a' w' => ∃ o v, ops[i]? = some o ∧ a' = a.put o.dst v ∧ QSeq P ops Q a0 n ss c (v :: t) w') a w
theorem QSeq.go (h : ∀ a, SqE a0 n ss t a → wpOp P ops Q i (fun a' w' => ∃ v, a' = a.put o.dst v ∧ QSeq P ops Q a0 n ss c (v :: t) w') a w) (ho : ops[i]? = some o := by rfl) : QSeq P ops Q a0 n ss (i :: c) t w :=
  fun a E => wpOp_mono (fun a' w' ⟨v, e, hq⟩ => ⟨o, v, ho, e, hq⟩) (h a E)
theorem QSeq.nil {t' : List Value} (e : t.reverse = t') (h : Q .normal (putAll a0 ss t') w) : QSeq P ops Q a0 n ss [] t w := by subst e; exact h
theorem QSeq.pure {v' : Value} (ho : ops[i]? = some o) (v : Value) (hs : ∀ {a}, SqE a0 n ss t a → (execOp a.eval o).run P w = .ok (.value v') w) (h : QSeq P ops Q a0 n ss c (v :: t) w) (hg : o.guard = none := by rfl) (hv : v' = v := by rfl) : QSeq P ops Q a0 n ss (i :: c) t w :=
  QSeq.go (fun a E => qc_run ho (wanted_none hg) (hv ▸ hs E) h) ho
theorem QSeq.pureG {v' : Value} (ho : ops[i]? = some o) (v : Value) (hw : ∀ {a}, SqE a0 n ss t a → Region.wanted o (yielded ops a.tmps) = true) (hs : ∀ {a}, SqE a0 n ss t a → (execOp a.eval o).run P w = .ok (.value v') w) (h : QSeq P ops Q a0 n ss c (v :: t) w) (hv : v' = v := by rfl) : QSeq P ops Q a0 n ss (i :: c) t w :=
  QSeq.go (fun a E => qc_run ho (hw E) (hv ▸ hs E) h) ho
theorem QSeq.skip (ho : ops[i]? = some o) (hw : ∀ {a}, SqE a0 n ss t a → Region.wanted o (yielded ops a.tmps) = false) (h : QSeq P ops Q a0 n ss c (undef :: t) w) : QSeq P ops Q a0 n ss (i :: c) t w := by
  refine QSeq.go (fun a E => ?_) ho
  unfold wpOp
  rw [ho]
  simp only [hw E]
  exact ⟨undef, rfl, h⟩
/-- one that a test may leave out -/
theorem QSeq.may {b : Bool} {x' : Value} (ho : ops[i]? = some o) (x : Value) (hw : ∀ {a}, SqE a0 n ss t a → Region.wanted o (yielded ops a.tmps) = b) (hs : ∀ {a}, SqE a0 n ss t a → b = true → (execOp a.eval o).run P w = .ok (.value x') w)
    (h : ∀ v, ((b = true → v = x) ∧ (b = false → v = undef)) → QSeq P ops Q a0 n ss c (v :: t) w) (hv : x' = x := by rfl) : QSeq P ops Q a0 n ss (i :: c) t w := by
  cases b with
  | false => exact QSeq.skip ho hw (h undef ⟨(fun e => by cases e), fun _ => rfl⟩)
  | true => exact QSeq.pureG ho x hw (fun E => hs E rfl) (h x ⟨fun _ => rfl, fun e => by cases e⟩) hv
/-- a call that turns nothing, which a test may leave out -/
theorem QSeq.mayCall {b : Bool} (ho : ops[i]? = some o) (x : Value) {F : FuncId} {xs : Array Operand} {ts : Array TypeId} {args : Array Value} {fn : Func} (hw : ∀ {a}, SqE a0 n ss t a → Region.wanted o (yielded ops a.tmps) = b) (hop : o.op = .call { callee := .value (.func F), args := xs, argTypes := ts }) (hf : P.funcs[F]? = some fn)
    (ha : ∀ {a}, SqE a0 n ss t a → b = true → xs.map a.eval = args) (hcl : b = true → Calls P F args w (fun e w' => e = .returned x ∧ Mod (fun _ => False) w w'))
    (h : ∀ v w', ((b = true → v = x) ∧ (b = false → v = undef)) → Mod (fun _ => False) w w' → QSeq P ops Q a0 n ss c (v :: t) w') (hn : (fn.name == "runtime.NumGoroutine") = false := by kernel_rfl) (hb : fn.body.isNone = false := by kernel_rfl) : QSeq P ops Q a0 n ss (i :: c) t w := by
  cases b with
  | false => exact QSeq.skip ho hw (h undef w ⟨(fun e => by cases e), fun _ => rfl⟩ (Mod.refl _ _))
  | true =>
    refine QSeq.go (fun a E => ?_) ho
    refine qc_callF ho (hw E) hop hf (ha E rfl) (hcl rfl) (fun e w' ⟨he, hm⟩ => ⟨x, he, h x w' ⟨fun _ => rfl, fun e => by cases e⟩ hm⟩) hn hb
theorem wp_region_S {id : Nat} (n : Nat) (hn : a0.tmps.size = n) (ss : List Nat) (c : List Nat) (h : QSeq P ops Q a0 n ss c [] w) (hc : c = List.range ops.size := by kernel_rfl) (hss : okSlots ops n ss = true := by kernel_rfl) (hnd : ss.Nodup := by decide) : (Code.region id ops false).wp P Q a0 w := by
  subst hc
  refine wp_region ?_
  have key : ∀ (m i : Nat) (t : List Value) (w : World), i + m = ops.size → t.length = i → QSeq P ops Q a0 n ss (List.range' i m) t w → wpOps P ops Q (List.range' i m) (putAll a0 ss t.reverse) w := by
    intro m
    induction m with
    | zero => intro i t w _ _ h; exact h
    | succ m ih =>
      intro i t w him hti h
      rw [List.range'_succ] at h ⊢
      rw [wpOps_cons]
      refine wpOp_mono ?_ (h (putAll a0 ss t.reverse) ⟨fun s hs => eval_out _ _ _ _ hs, fun s hs => by rw [putAll_size, hn]; exact hs, fun k p s v hk hv hp hsn => ?_, fun k s hk hks => ?_⟩)
      · rintro a' w' ⟨o, v, ho, rfl, hq⟩
        obtain ⟨s, hs, hds⟩ := okSlots_at hss ho
        have e : (putAll a0 ss t.reverse).put o.dst v = putAll a0 ss (v :: t).reverse := by
          have e1 := putAll_snoc ss t.reverse a0 s v (by rw [List.length_reverse, hti]; exact hs)
          rw [List.reverse_cons]
          rcases hds with ⟨h1, h2⟩ | ⟨h1, h2⟩
          · rw [h1]; exact e1
          · rw [h1, ← e1, put_far _ (by rw [putAll_size, hn]; exact h2)]; rfl
        rw [e]
        exact ih (i + 1) (v :: t) w' (by omega) (by simp [hti]) hq
      · have hv' : t.reverse[k]? = some v := by
          rw [List.getElem?_reverse (by omega), show t.length - 1 - k = p by omega]
          exact hv
        have := putAll_at ss t.reverse a0 k s v hnd hk hv' (by rw [hn]; exact hsn)
        simp only [Act.eval, Array.getD_eq_getD_getElem?]
        rw [this]
        rfl
      · rw [putAll_take]
        refine eval_out _ _ _ _ fun hm => ?_
        obtain ⟨j, hj, e⟩ := List.getElem_of_mem hm
        rw [List.getElem_take] at e
        have hj2 : j < t.length := by rw [List.length_take, List.length_reverse] at hj; omega
        have hj3 : ss[j]? = some s := by rw [← e]; exact List.getElem?_eq_getElem _
        have := (List.getElem?_inj (List.getElem?_eq_some_iff.1 hj3).1 hnd).1 (hj3.trans hks.symm)
        omega
  rw [List.range_eq_range'] at h ⊢
  have hk := key ops.size 0 [] w (by omega) rfl h
  rw [show putAll a0 ss ([] : List Value).reverse = a0 by cases ss <;> rfl] at hk
  exact hk
/-- a new variable, with what is in it -/
theorem qc_box {KQ : Value → World → Prop} {ty : TypeId} {x : Operand} (ho : ops[i]? = some o) (hw : Region.wanted o (yielded ops a.tmps) = true) (hop : o.op = .box ty x) {vs : List Value} (hx : (a.eval x).cells = vs.toArray)
    (h : ∀ w', Cs w' w.heap.size vs.toArray ty → Mod (fun _ => False) w w' → KQ (.pointer (some ⟨w.heap.size, 0, none⟩)) w') : wpOp P ops Q i (fun a' w' => ∃ v, a' = a.put o.dst v ∧ KQ v w') a w := by
  have hr : (execOp a.eval o).run P w = .ok (.value (.pointer (some ⟨w.heap.size, 0, none⟩))) (w.alloc (.cells vs.toArray ty)) := by
    unfold execOp
    simp [hop, Instr.box, newVar, newRow, hx]
  exact qc_run ho hw hr (h _ (Cs.new _ _ _) ((Mod.refl _ _).alloc _))
theorem beq_t (b : Bool) : (b == true) = b := by cases b <;> rfl
theorem beq_f (b : Bool) : (b == false) = !b := by cases b <;> rfl
theorem Mod.goS {S S' T : Nat → Prop} {w a b : World} (h : Mod S w a) (hm : Mod T a b) (hS : ∀ k, S k → S' k) (hT : ∀ k, k < w.heap.size → T k → S' k) : Mod S' w b := (h.mono (fun k _ h => hS k h)).trans hm hT
theorem Mod.goE {S : Nat → Prop} {w a b : World} (h : Mod S w a) (hm : Mod (fun _ => False) a b) : Mod S w b := h.trans hm (fun _ _ h => h.elim)
theorem ev {a1 a0 : Act} (h : Hid (a1 = a0)) (k : Nat) {v : Value} (e : a1.tmps.toList[k]? = some v) : a0.eval (.tmp k) = v := by
  have h := h.out
  subst h
  simp only [Act.eval, Array.getD_eq_getD_getElem?]
  rw [← Array.getElem?_toList, e]
  rfl
theorem wp_region_U {id : Nat} {a1 : Act} (n : Nat) (ss : List Nat) (c : List Nat) (h : ∀ a0, Hid (a1 = a0) → QSeq P ops Q a0 n ss c [] w) (hn : a1.tmps.size = n := by rfl) (hc : c = List.range ops.size := by kernel_rfl) (hss : okSlots ops n ss = true := by kernel_rfl) (hnd : ss.Nodup := by decide) : (Code.region id ops false).wp P Q a1 w :=
  wp_region_S n hn ss c (h a1 rfl) hc hss hnd
theorem Cs.eqv {g : Nat} {a b : Array Value} {T : TypeId} (h : Cs w g a T) (e : a = b) : Cs w g b T := e ▸ h
theorem one1 {v : Value} (h : v.oneCell' = true := by rfl) : ∀ u ∈ [v], u.oneCell' = true := by
  intro u hu
  rw [List.mem_singleton] at hu
  rw [hu]
  exact h
theorem ec {x : Operand} {v : Value} {vs : List Value} (h : a.eval x = v) (e : v.cells = vs.toArray := by rfl) : (a.eval x).cells = vs.toArray := by rw [h]; exact e
theorem sB {R : Nat → Prop} {m b : Nat} (hb : Hid (∀ k, R k → k < m)) (h : m ≤ b := by omega) : ∀ k, R k → k = b → False := fun k h1 h2 => by have := hb.out k h1; omega
theorem sN {R : Nat → Prop} {m : Nat} {x y : World} (hb : Hid (∀ k, R k → k < m)) (h : m ≤ x.heap.size := by omega) : ∀ k, R k → x.heap.size ≤ k ∧ k < y.heap.size → False := fun k h1 h2 => by have := hb.out k h1; omega
theorem pz : (∀ a ss, putAll a ss [] = a) ∧ (∀ a s ss v vs, putAll a (s :: ss) (v :: vs) = putAll (a.put (some s) v) ss vs) := ⟨fun a ss => by cases ss <;> rfl, fun _ _ _ _ _ => rfl⟩
theorem QSeq.call {F : FuncId} {xs : Array Operand} {ts : Array TypeId} {args : Array Value} {post : Ending → World → Prop} {fn : Func} (ho : ops[i]? = some o) (hop : o.op = .call { callee := .value (.func F), args := xs, argTypes := ts }) (hf : P.funcs[F]? = some fn)
    (hcl : Calls P F args w post) (ha : ∀ {a}, SqE a0 n ss t a → xs.map a.eval = args) (hp : ∀ e w', post e w' → ∃ v, e = .returned v ∧ QSeq P ops Q a0 n ss c (v :: t) w') (hg : o.guard = none := by rfl) (hn : (fn.name == "runtime.NumGoroutine") = false := by kernel_rfl) (hb : fn.body.isNone = false := by kernel_rfl) : QSeq P ops Q a0 n ss (i :: c) t w :=
  QSeq.go (fun a E => qc_callF ho (wanted_none hg) hop hf (ha E) hcl hp hn hb) ho
end
end Go.Gv

/- Things stored in place: the i-th of a slice of one's own. No program here. -/
namespace Go.Gv
open Go Go.RowKit

/-- the first k are turned, the others not yet -/
def upto {α : Type} (f : α → α) (k : Nat) (l : List α) : List α := (l.take k).map f ++ l.drop k
section
variable {α : Type} {f : α → α} {k : Nat} {l : List α}
end
theorem flat_set {css : List (List Value)} {s : Nat} (h : ∀ cs ∈ css, cs.length = s) : ∀ (i : Nat) (cs : List Value), i < css.length → (css.set i cs).flatten = css.flatten.take (i * s) ++ cs ++ css.flatten.drop (i * s + s) := by
  induction css with
  | nil => intro i cs hi; simp at hi
  | cons c r ih =>
    intro i cs hi
    have hc : c.length = s := h c (by simp)
    cases i with
    | zero =>
      simp only [sCZ, List.flatten_cons, Nat.zero_mul, List.take_zero, List.nil_append, Nat.zero_add]
      rw [List.drop_append_of_le_length (by omega), List.drop_of_length_le (by omega), List.nil_append]
    | succ i =>
      have h9 : (i + 1) * s = c.length + i * s := by rw [Nat.succ_mul, hc]; omega
      simp only [sCS, List.flatten_cons]
      rw [ih (fun x hx => h x (by simp [hx])) i cs (by simpa using hi), h9, List.take_length_add_append, Nat.add_assoc, List.drop_length_add_append]
      simp [List.append_assoc]
section
variable {α : Type} {A : Rep α} {e : TypeId} {R E R' : Nat → Prop} {w w' : World} {v : Value} {l : List α}
theorem OwS.at {ao : Option Addr} {n cap : Nat} (h : OwS A e R E w (.slice ao n cap) l) {i : Nat} {x : α} (hi : l[i]? = some x) :
    ∃ g cs cur, ao = some ⟨g, 0, none⟩ ∧ R g ∧ A.rd E w cs x ∧ (∀ j u, cs[j]? = some u → w.cell? ⟨g, 0 + i * A.sz + j, none⟩ = some u) ∧ Cs w g cur e ∧ i * A.sz + A.sz ≤ cur.size := by
  obtain ⟨css, h1, h2, ⟨hl, hE, h3⟩, h4⟩ := h
  have hil := (List.getElem?_eq_some_iff.1 hi).1
  have hcl := css_len h1 h2 (fun cs a h => A.len h)
  have hg1 : css[i]? = some css[i] := List.getElem?_eq_getElem (by omega)
  have hfl := flat_get hcl i css[i] hg1
  rcases h3 with ⟨he, h0⟩ | ⟨g, cap', cur, he, hc, k1, k2, k3, k4, k5⟩
  · omega
  · cases he
    have hm : i * A.sz + A.sz ≤ l.length * A.sz := by rw [← Nat.succ_mul]; exact Nat.mul_le_mul_right _ hil
    have hm2 := Nat.mul_le_mul_right A.sz k1
    refine ⟨g, css[i], cur, rfl, h4 g rfl, A.wid (h2 i _ x hg1 hi) (fun k h => h.1), fun j u hu => ?_, hc, by omega⟩
    have hj : j < A.sz := by have := (List.getElem?_eq_some_iff.1 hu).1; rw [hcl css[i] (List.getElem_mem _)] at this; exact this
    have h9 := hfl j u hu
    rw [← k4, List.getElem?_take, if_pos (by omega)] at h9
    rw [Nat.zero_add, hc.cell]
    simpa using h9
theorem OwS.put {g n cap i off : Nat} {cs : List Value} {x : α} {cur : Array Value} (h : OwS A e R E w (.slice (some ⟨g, 0, none⟩) n cap) l) (hi : i < l.length) (ho : off = i * A.sz) (hx : A.rd R' w cs x) (hR : ∀ k, R' k → E k ∧ ¬ R k)
    (hE : ∀ k, E k → ¬ R k) (hc : Cs w g cur e) (hc' : Cs w' g (lay cur off cs) e) (hm : Mod (fun k => k = g) w w') : OwS A e R E w' (.slice (some ⟨g, 0, none⟩) n cap) (l.set i x) := by
  subst ho
  obtain ⟨css, h1, h2, ⟨hl, hE1, h3⟩, h4⟩ := h
  have hg : R g := h4 g rfl
  have hcl := css_len h1 h2 (fun cs a h => A.len h)
  have hxl := A.len hx
  rcases h3 with ⟨he, h0⟩ | ⟨g', cap', cur', he, hc1, k1, k2, k3, k4, k5⟩
  · cases he
  cases he
  obtain rfl : cur = cur' := by have := hc.symm.trans hc1; cases this; rfl
  have hmm : i * A.sz + A.sz ≤ l.length * A.sz := by rw [← Nat.succ_mul]; exact Nat.mul_le_mul_right _ hi
  have hm2 := Nat.mul_le_mul_right A.sz k1
  have hsz : cur.toList.length = cur.size := by simp
  have hlen : (cur.toList.take (i * A.sz) ++ cs ++ cur.toList.drop (i * A.sz + cs.length)).length = cur.size := by simp; omega
  have hfs := flat_set hcl i cs (by omega)
  refine ⟨css.set i cs, by simp [h1], fun j c a hj ha => ?_, ⟨?_, ?_, .inr ⟨g, cap, _, by rw [List.length_set], hc', by rw [List.length_set]; exact k1, k2, ?_, ?_, ?_⟩⟩, fun k hk => h4 k hk⟩
  · by_cases hij : i = j
    · subst hij
      rw [List.getElem?_set_self (by omega)] at hj ha
      cases hj; cases ha
      refine A.keep (A.wid hx (fun k hk => ⟨(hR k hk).1, fun e => (hR k hk).2 (by cases e; exact hg)⟩)) ?_
      intro p u hp hu
      exact hm.cell hu (fun hS => hp.2 (by rw [hS]; rfl))
    · rw [List.getElem?_set_ne hij] at hj ha
      refine A.keep (h2 j c a hj ha) ?_
      intro p u hp hu
      exact hm.cell hu (fun hS => hp.2 (by rw [hS]; rfl))
  · have h6 : css.flatten.length = l.length * A.sz := hl
    rw [hfs, List.length_set, List.length_append, List.length_append, List.length_take, List.length_drop, h6, hxl]; omega
  · intro u hu
    rw [hfs] at hu
    simp only [List.mem_append] at hu
    rcases hu with (hu | hu) | hu
    · exact hE1 u (List.mem_of_mem_take hu)
    · exact A.one hx u hu
    · exact hE1 u (List.mem_of_mem_drop hu)
  · show cap * A.sz ≤ (lay cur (i * A.sz) cs).size
    unfold lay
    rw [List.size_toArray, hlen]
    exact k3
  · unfold lay
    rw [hfs, ← k4, List.length_set, hxl]
    show List.take (l.length * A.sz) (cur.toList.take (i * A.sz) ++ cs ++ cur.toList.drop (i * A.sz + A.sz)) = _
    rw [List.take_take, Nat.min_eq_left (by omega), List.append_assoc, List.take_append, List.take_append, List.drop_take]
    rw [List.take_take, Nat.min_eq_right (by omega)]
    rw [List.take_of_length_le (l := cs) (by simp; omega)]
    simp only [List.length_take, hsz, hxl, List.append_assoc]
    rw [show l.length * A.sz - min (i * A.sz) cur.size - A.sz = l.length * A.sz - (i * A.sz + A.sz) by omega]
  · intro u hu
    unfold lay at hu
    rw [List.toList_toArray] at hu
    simp only [List.mem_append] at hu
    rcases hu with (hu | hu) | hu
    · exact k5 u (List.mem_of_mem_take hu)
    · exact A.one hx u hu
    · exact k5 u (List.mem_of_mem_drop hu)
end
end Go.Gv

/- SHA-256 in plain words, as the program's own operations spell it; bits.RotateLeft32 and sha.word. -/
namespace Go.Proofs.Ytekbmpjdombedaa
open Go Go.RowKit Go.Gv

abbrev wv (x : Int) : Value := .int .u32 x
def an (a b : Int) : Int := bits .and .u32 a b
def pl (a b : Int) : Int := (a + b) % 4294967296
def wordOf (a b c d : Int) : Int := bits .or .u32 (bits .or .u32 (bits .or .u32 (a % 4294967296 * 16777216 % 4294967296) (b % 4294967296 * 65536 % 4294967296)) (c % 4294967296 * 256 % 4294967296)) (d % 4294967296)

end Go.Proofs.Ytekbmpjdombedaa

/- sha.spread: a block as 64 words. -/
namespace Go.Proofs.Ytekbmpjdombedaa
open Go Go.RowKit Go.Gv

def wAt (bs : List Int) (i : Nat) : Int := wordOf (bs.getD (4 * i) 0) (bs.getD (4 * i + 1) 0) (bs.getD (4 * i + 2) 0) (bs.getD (4 * i + 3) 0)
def w16 (bs : List Int) (i : Nat) : List Int := (List.range i).map (wAt bs) ++ List.replicate (64 - i) 0
/-- an array of words in a block -/
def Ws (T : TypeId) (w : World) (g : Nat) (ws : List Int) : Prop := Cs w g (ws.map wv).toArray T
theorem Ws.cell {T : TypeId} {w : World} {g : Nat} {ws : List Int} (h : Ws T w g ws) {j : Nat} (hj : j < ws.length) : w.cell? ⟨g, j, none⟩ = some (wv (ws.getD j 0)) := by
 rw [Cs.cell h]; simp [List.getD, List.getElem?_eq_getElem hj]
theorem Ws.mod {T : TypeId} {S : Nat → Prop} {w w' : World} {g : Nat} {ws : List Int} (h : Ws T w g ws) (hm : Mod S w w') (hn : ¬ S g) : Ws T w' g ws := Cs.mod h hm hn
theorem Ws.set {T : TypeId} {w : World} {g : Nat} {ws : List Int} (h : Ws T w g ws) (j : Nat) (x : Int) : Ws T (w.setCell ⟨g, j, none⟩ (wv x)) g (ws.set j x) := by
 have := Cs.set h j (wv x)
 unfold Ws
 simpa [List.map_set] using this
theorem Ws.frozen {T : TypeId} {w : World} {g : Nat} {ws : List Int} (h : Ws T w g ws) (j : Nat) : w.frozen? ⟨g, j, none⟩ = false := Cs.frozen h j
end Go.Proofs.Ytekbmpjdombedaa

/- sha.mix: a block goes into the state. -/
namespace Go.Proofs.Ytekbmpjdombedaa
open Go Go.RowKit Go.Gv

section
variable {w0 w : World} {v : Value} {hs F z8 z64 : List Int} {g3 : Nat} {L : Nat → Bool} {vs : List Value}
end

end Go.Proofs.Ytekbmpjdombedaa

/- The rounds' numbers; an element of an array value; SHA-256 in plain words. -/
namespace Go.Proofs.Ytekbmpjdombedaa
open Go Go.RowKit Go.Gv

end Go.Proofs.Ytekbmpjdombedaa

/- gavellaw01.Act: a call, as an argument holds it. -/
namespace Go.Proofs.Ytekbmpjdombedaa
open Go Go.RowKit Go.Gv Go.ChangeShapes Go.WideShapes Go.ChangeAt Go.Deep

structure Act01 where
 Do : Int
 N : Int
 U : Nat
 VB : Value
 B : List Int
 H : List Int
instance : Inhabited Act01 := ⟨⟨0, 0, 0, .slice none 0 0, [], List.replicate 32 0⟩⟩
def Act01.tail (a : Act01) : List Value := (List.range 32).map fun i => bv (a.H.getD i 0)
def Act01.cells (a : Act01) : List Value := .int .i64 a.Do :: .int .i64 a.N :: .int .u64 a.U :: a.VB :: a.tail
structure Act01.Ok (W : World) (a : Act01) : Prop where
 d : -9223372036854775808 ≤ a.Do ∧ a.Do ≤ 9223372036854775807
 n : -9223372036854775808 ≤ a.N ∧ a.N ≤ 9223372036854775807
 u : a.U < U64
 b : RdR (fun k => k < W.heap.size) a.B.length W a.VB a.B
 h : a.H.length = 32
 hb : Bytes a.H
theorem Act01.len (a : Act01) : a.cells.length = 36 := by simp [Act01.cells, Act01.tail]
end Go.Proofs.Ytekbmpjdombedaa

/- gavelref01: numbers and rows as bytes. -/
namespace Go.Proofs.Ytekbmpjdombedaa
open Go Go.RowKit Go.Gv

/-- the blocks of what an append gave: those before, or new ones since w -/
theorem AppB.trans {w0 w w' : World} {v v' : Value} {bs : List Int} (h : AppB w v bs v' w') (hm : Mod (fun _ => False) w0 w) (hf : Fresh w0 v) : Mod (fun _ => False) w0 w' ∧ Fresh w0 v' := by
 obtain ⟨h1, h2, h3⟩ := h
 refine ⟨hm.trans h2 (fun i hi hk => by have := hf i hk.symm; omega), fun g hg => ?_⟩
 rcases h3 with h3 | ⟨k, h3, hk⟩
 ·exact hf g (h3 ▸ hg)
 ·rw [h3] at hg
  obtain rfl : k = g := by simpa using hg
  exact Nat.le_trans hm.size hk

end Go.Proofs.Ytekbmpjdombedaa

/- Local copies of an Act; lent texts with their blocks. -/
namespace Go.Proofs.Ytekbmpjdombedaa
open Go Go.RowKit Go.Gv

section
variable {α : Type} {s : Nat} {cells : α → List Value} {R R' S : Nat → Prop} {w w' : World} {v : Value} {l : List α}
theorem RdE.shape (h : RdE s cells R w v l) : ∃ ao cap, v = .slice ao l.length cap ∧ l.length ≤ maxLen := by
  rcases h with ⟨rfl, ao, cap, rfl⟩ | ⟨g, o, cap, _, rfl, _, h1, h2, _⟩
  · exact ⟨ao, cap, rfl, by simp⟩
  · exact ⟨_, cap, rfl, by omega⟩
theorem RdE.at {ao : Option Addr} {n cap : Nat} (h : RdE s cells R w (.slice ao n cap) l) {i : Nat} (hi : i < l.length) :
    ∃ g o, ao = some ⟨g, o, none⟩ ∧ ∀ j u, (cells l[i])[j]? = some u → w.cell? ⟨g, o + i * s + j, none⟩ = some u := by
  rcases h with ⟨rfl, _⟩ | ⟨g, o, cap', _, e, _, _, _, h6⟩
  · exact absurd hi (by simp)
  · simp only [Value.slice.injEq] at e
    exact ⟨g, o, e.1, fun j u => h6 i hi j u⟩
theorem RdE.widen (h : RdE s cells R w v l) (hs : ∀ k, R k → R' k) : RdE s cells R' w v l := by
  rcases h with h | ⟨g, o, cap, h1, h2⟩
  · exact .inl h
  · exact .inr ⟨g, o, cap, hs g h1, h2⟩
end

section
variable {R R' S : Nat → Prop} {w w' : World} {g : Nat} {a : Act01}
end
theorem Act01.one {W : World} {a : Act01} (h : a.Ok W) : ∀ u ∈ a.cells, u.oneCell' = true := by
  intro u hu
  obtain ⟨ao, cap, e⟩ := h.b.shape
  simp only [Act01.cells, Act01.tail, List.mem_cons, List.mem_map] at hu
  rcases hu with rfl | rfl | rfl | rfl | ⟨i, _, rfl⟩
  · rfl
  · rfl
  · rfl
  · rw [e]; rfl
  · rfl
/-- a lent text with its block -/
def LentR (R : Nat → Prop) (N : Nat) (w : World) (v : Value) (bs : List Int) : Prop := Lent w v bs ∧ (∀ g, v.ownBlock = some g → R g) ∧ Bytes bs ∧ bs.length ≤ N ∧ N ≤ 1000000
section
variable {R R' S : Nat → Prop} {N M : Nat} {w w' : World} {v : Value} {bs : List Int}
theorem LentR.mod (h : LentR R N w v bs) (hm : Mod S w w') (hs : ∀ k, R k → S k → False) : LentR R N w' v bs := by
  obtain ⟨⟨g, rfl, hc⟩, h2, h3⟩ := h
  exact ⟨⟨g, rfl, hc.mod hm (hs g (h2 g rfl))⟩, h2, h3⟩
theorem LentR.widen (h : LentR R N w v bs) (hs : ∀ k, R k → R' k) (_hM : N ≤ N) : LentR R' N w v bs := ⟨h.1, fun g hg => hs g (h.2.1 g hg), h.2.2⟩
theorem LentR.rd (h : LentR R N w v bs) : RdR R N w v bs := by
  obtain ⟨⟨g, rfl, hc⟩, h2, h3, h4, h5⟩ := h
  refine ⟨⟨h3, ?_⟩, fun _ => h2, h4⟩
  refine Rd.mk (by omega) (by rw [maxLen_val]; omega) (by simp) fun j u hu => ?_
  rw [Nat.zero_add, hc.cell]
  have hj : j < bs.length := by have := (List.getElem?_eq_some_iff.1 hu).1; simpa using this
  simp only [List.getElem?_map, List.getElem?_toArray] at hu ⊢
  rw [← hu]
  congr 1
  unfold lendc
  rw [List.getElem?_append_left hj]
end
end Go.Proofs.Ytekbmpjdombedaa

/- What calls write, what is read of it, what is read of a strict beginning of it. -/
namespace Go.Proofs.Ytekbmpjdombedaa
open Go Go.RowKit Go.Gv

theorem RdR.upto {R : Nat → Prop} {N : Nat} {w : World} {ao : Option Addr} {n cap : Nat} {bs : List Int} (h : RdR R N w (.slice ao n cap) bs) (k : Nat) (hk : k ≤ bs.length) : RdR R N w (.slice ao k cap) (bs.take k) := by
 refine ⟨h.1.upto k hk, fun h0 g hg => h.2.1 (by simp at h0; omega) g (by cases ao <;> simp_all [Value.ownBlock]), by have := h.2.2; simp; omega⟩

/-- the state of a reader that has less than all of `full` ahead -/
def SP (s : RSt) (full : List Int) : Prop := s = none ∨ ∃ t, s = some t ∧ t <+: full ∧ t.length < full.length

theorem SP.nil {s : RSt} (h : SP s []) : s = none := by
 rcases h with h | ⟨t, _, _, h⟩
 ·exact h
 ·simp at h
theorem SP.cut {t a rest : List Int} (h1 : t <+: a ++ rest) (h2 : t.length < (a ++ rest).length) : (t <+: a ∧ t.length < a.length) ∨ ∃ t', t = a ++ t' ∧ SP (some t') rest := by
 rcases Nat.lt_or_ge t.length a.length with h | h
 ·exact .inl ⟨List.prefix_of_prefix_length_le h1 (List.prefix_append a rest) (by omega), h⟩
 ·obtain ⟨t', rfl⟩ := List.prefix_of_prefix_length_le (List.prefix_append a rest) h1 h
  refine .inr ⟨t', rfl, .inr ⟨t', rfl, (List.prefix_append_right_inj a).1 h1, by simpa using h2⟩⟩

theorem dec_pre : ∀ (m i acc : Nat) (t : List Int), t <+: encN m → t.length < (encN m).length → decGo i acc t = none := by
 intro m
 induction m using Nat.strongRecOn with
 | _ m ih =>
  intro i acc t h1 h2
  by_cases hm : m < 128
  ·rw [encN_lt hm] at h2
   obtain rfl : t = [] := List.eq_nil_of_length_eq_zero (by simpa using h2)
   rfl
  ·rw [encN_ge (by omega)] at h1 h2
   cases t with
   | nil => rfl
   | cons c t =>
    obtain ⟨rfl, h1'⟩ := List.cons_prefix_cons.1 h1
    simp only [decGo]
    split
    ·rfl
    ·rw [if_neg (by omega)]
     exact ih (m / 128) (by omega) _ _ t h1' (by simpa using h2)

theorem SP.num {s : RSt} {n : Nat} {rest : List Int} (hn : n < U64) (h : SP s (encN n ++ rest)) : SP (rNum s).2 rest ∧ ((rNum s).2.isSome → (rNum s).1 = n) := by
 rcases h with rfl | ⟨t, rfl, h1, h2⟩
 ·exact ⟨.inl rfl, by simp⟩
 ·rcases SP.cut h1 h2 with ⟨h3, h4⟩ | ⟨t', rfl, h5⟩
  ·have := dec_pre n 0 0 t h3 h4
   simp [rNum, this, SP]
  ·rw [rNum_enc hn]
   exact ⟨h5, fun _ => rfl⟩
theorem SP.int {s : RSt} {n : Nat} {rest : List Int} (most : Int) (hn : n < U64) (h : SP s (encN n ++ rest)) : SP (rInt most s).2 rest ∧ ((rInt most s).2.isSome → (rInt most s).1 = n) := by
 have := h.num hn
 unfold rInt
 split
 ·exact ⟨.inl rfl, by simp⟩
 ·exact this
theorem SP.take {s : RSt} {a rest : List Int} (h : SP s (a ++ rest)) : SP (rTake a.length s).2 rest := by
 rcases h with rfl | ⟨t, rfl, h1, h2⟩
 ·exact .inl rfl
 ·rcases SP.cut h1 h2 with ⟨h3, h4⟩ | ⟨t', rfl, h5⟩
  ·simp [rTake, h4, SP]
  ·rw [rTake_app rfl]; exact h5
theorem SP.row {s : RSt} {bs rest : List Int} (most : Int) (hb : bs.length < U64) (h : SP s (encN bs.length ++ bs ++ rest)) : SP (rRow most s).2 rest := by
 rw [List.append_assoc] at h
 have h1 := h.int most hb
 unfold rRow
 cases hs : (rInt most s).2 with
 | none => exact .inl rfl
 | some u =>
  rw [h1.2 (by simp [hs]), ← hs]
  exact h1.1.take
theorem SP.hash {s : RSt} {hh rest : List Int} (hl : hh.length = 32) (h : SP s (hh ++ rest)) : SP (rHash s).2 rest := by
 have h1 := h.take
 rw [hl] at h1
 unfold rHash
 generalize rTake 32 s = q at *
 rcases q with ⟨b, _ | x⟩
 ·exact .inl rfl
 ·exact h1

section
variable {nm : Int} {row : Nat} {a : Act01}
end
theorem within_nat (v n : Int) (hn : 1 ≤ n) : ∃ k : Nat, within v n = k ∧ (k : Int) < n := by
 have := within_range v n hn
 exact ⟨(within v n).toNat, by omega, by omega⟩
end Go.Proofs.Ytekbmpjdombedaa

/- Slices of one-cell values (numbers, slices) that are appended to; an Act's fields in the slice itself. -/
namespace Go.Proofs.Ytekbmpjdombedaa
open Go Go.RowKit Go.Gv

def OwV (e : TypeId) (R : Nat → Prop) (N : Nat) (w : World) (v : Value) (cs : List Value) : Prop := Own (fun u => u.oneCell' = true) e 1 w v cs.length cs ∧ (∀ g, v.ownBlock = some g → R g) ∧ cs.length ≤ N
section
variable {e : TypeId} {R R' S : Nat → Prop} {N M : Nat} {w w' : World} {v : Value} {cs : List Value}
theorem OwV.mod (h : OwV e R N w v cs) (hm : Mod S w w') (hs : ∀ k, R k → S k → False) : OwV e R N w' v cs := ⟨Own.mod h.1 hm (fun g hg hS => hs g (h.2.1 g hg) hS), h.2⟩
theorem OwV.widen (h : OwV e R N w v cs) (hs : ∀ k, R k → R' k) (hM : N ≤ M) : OwV e R' M w v cs := ⟨h.1, fun g hg => hs g (h.2.1 g hg), Nat.le_trans h.2.2 hM⟩
theorem OwV.nil (e : TypeId) (R : Nat → Prop) (w : World) : OwV e R 0 w (.slice none 0 0) [] := ⟨Own.nil _ _ _ _, (fun g hg => by cases hg), Nat.le_refl _⟩
theorem OwV.shape (h : OwV e R N w v cs) : ∃ ao cap, v = .slice ao cs.length cap := Own.shape h.1
theorem OwV.at {ao : Option Addr} {n cap : Nat} (h : OwV e R N w (.slice ao n cap) cs) {i : Nat} (hi : i < cs.length) :
    ∃ g, ao = some ⟨g, 0, none⟩ ∧ ∀ j u, cs[j]? = some u → w.cell? ⟨g, j, none⟩ = some u := by
  obtain ⟨hl, _, ⟨hv, hn⟩ | ⟨g, cap', cur, hv, hg, h1, h2, h3, h4, _⟩⟩ := h.1
  · omega
  · simp only [Value.slice.injEq] at hv
    refine ⟨g, hv.1, fun j u hu => ?_⟩
    rw [hg.cell]
    have hj : j < cs.length := (List.getElem?_eq_some_iff.1 hu).1
    rw [← h4, List.getElem?_take, if_pos (by omega)] at hu
    simpa using hu
end
section
variable {R : Nat → Prop} {w : World} {g o n cap i : Nat} {l : List Act01} {a : Act01}
end
end Go.Proofs.Ytekbmpjdombedaa

/- How long a number is; a number that is written longer; a text whose last byte is turned. -/
namespace Go.Proofs.Ytekbmpjdombedaa
open Go Go.RowKit Go.Gv

theorem OwR.last {R : Nat → Prop} {N : Nat} {w : World} {v : Value} {ini : List Int} {d : Int} (h : OwR R N w v (ini ++ [d])) :
    ∃ g cap, v = .slice (some ⟨g, 0, none⟩) (ini.length + 1) cap ∧ R g ∧ g < w.heap.size ∧ w.cell? ⟨g, ini.length, none⟩ = some (bv d) ∧ w.frozen? ⟨g, ini.length, none⟩ = false ∧
      ∀ y : Int, 0 ≤ y → y < 256 → OwR R N (w.setCell ⟨g, ini.length, none⟩ (bv y)) v (ini ++ [y]) := by
  obtain ⟨h1, h2, h3⟩ := h
  have hby := h1.bytes
  obtain ⟨hl, hE, ⟨rfl, hn⟩ | ⟨g, cap, cur, rfl, hc, q1, q2, q3, q4, q5⟩⟩ := h1
  · simp at hn
  · have q3' : cap ≤ cur.size := by omega
    have hlen : (ini ++ [d]).length = ini.length + 1 := by simp
    rw [hlen] at q1 q4 hl
    refine ⟨g, cap, by rw [hlen], h2 g rfl, hc.lt, ?_, hc.frozen _, fun y h0 hy => ⟨?_, h2, by simpa using h3⟩⟩
    · rw [hc.cell]
      have : cur.toList[ini.length]? = some (bv d) := by
        have e : (cur.toList.take ((ini.length + 1) * 1))[ini.length]? = ((ini ++ [d]).map bv)[ini.length]? := by rw [q4]
        rw [List.getElem?_take, if_pos (by omega)] at e
        rw [e]; simp
      simpa using this
    · refine ⟨by simp, ?_, .inr ⟨g, cap, cur.setIfInBounds ini.length (bv y), by simp, hc.set ini.length (bv y), by simpa using q1, q2, by simpa using q3, ?_, ?_⟩⟩
      · refine isB_all ?_
        intro x hx
        rcases List.mem_append.1 hx with h | h
        · exact hby x (List.mem_append_left _ h)
        · simp at h; subst h; exact ⟨h0, hy⟩
      · rw [Array.toList_setIfInBounds]
        have e2 : (ini ++ [y]).length * 1 = (ini.length + 1) * 1 := by simp
        rw [e2, List.take_set, q4, List.map_append, List.map_append]
        rw [List.set_append_right _ _ (by simp)]
        simp
      · intro u hu
        rw [Array.toList_setIfInBounds] at hu
        rcases List.mem_or_eq_of_mem_set hu with h | h
        · exact q5 u h
        · exact ⟨y, h, h0, hy⟩

end Go.Proofs.Ytekbmpjdombedaa

/- sha.Sum. -/
namespace Go.Proofs.Ytekbmpjdombedaa
open Go Go.RowKit Go.Gv

def padded (bs : List Int) (j : Nat) : List Int := bs ++ [128] ++ List.replicate j 0
def lenOf : Value → Nat
 | .slice _ n _ => n
 | _ => 0
/-- the padded bytes, in blocks of their own -/
def FulO (w0 : World) (w : World) (v : Value) (bs : List Int) : Prop := OwR (fun k => w0.heap.size + 2 ≤ k) bs.length w v bs
theorem FulO.mod {S : Nat → Prop} {w0 w w' : World} {v : Value} {bs : List Int} (o : FulO w0 w v bs) (hm : Mod S w w') (hS : ∀ k, S k → k < w0.heap.size + 2) : FulO w0 w' v bs := OwR.mod o hm (fun k h1 h2 => by have := hS k h2; omega)

end Go.Proofs.Ytekbmpjdombedaa

/- A writer that a region fills, one call behind the other: the state for wp_region_G. -/
namespace Go.Proofs.Ytekbmpjdombedaa
open Go Go.RowKit Go.Gv

end Go.Proofs.Ytekbmpjdombedaa

/- commit.Of. -/
namespace Go.Proofs.Ytekbmpjdombedaa
open Go Go.RowKit Go.Gv

def I64 (n : Int) : Prop := -9223372036854775808 ≤ n ∧ n ≤ 9223372036854775807
end Go.Proofs.Ytekbmpjdombedaa

/- commit.Text. -/
namespace Go.Proofs.Ytekbmpjdombedaa
open Go Go.RowKit Go.Gv

/-- a commitment -/
structure Cm where
 cl : Int
 sq : Int
 h : List Int
 ln : Int
 sb : Int
 mr : Int
def Cm.cells (c : Cm) : List Value := [.int .i64 c.cl, .int .i64 c.sq] ++ (c.h.map bv ++ [.int .i64 c.ln, .int .i64 c.sb, .int .i64 c.mr])
def Cm.val (c : Cm) : Value := .agg c.cells.toArray
/-- its numbers are numbers, its hash is one -/
def Cm.OK (c : Cm) : Prop := (I64 c.cl ∧ I64 c.sq ∧ I64 c.ln ∧ I64 c.sb ∧ I64 c.mr) ∧ c.h.length = 32 ∧ Bytes c.h
theorem Cm.len {c : Cm} (h : c.h.length = 32) : c.cells.length = 37 := by simp [Cm.cells, h]
theorem size_commit : (Try.prog.info? 35).map (·.size) = some 37 := by kernel_rfl
section
variable {w : World} {g : Nat} {c : Cm} {T : TypeId}
end
end Go.Proofs.Ytekbmpjdombedaa
namespace Go.Gv
open Go Go.RowKit Go.Proofs.Ytekbmpjdombedaa
section
variable {w : World} {g : Nat} {c : Cm} {T : TypeId}
theorem Cs.c0 (h : Cs w g c.cells.toArray T) : w.cell? ⟨g, 0, none⟩ = some (.int .i64 c.cl) := by rw [h.cell]; rfl
theorem Cs.c1 (h : Cs w g c.cells.toArray T) : w.cell? ⟨g, 1, none⟩ = some (.int .i64 c.sq) := by rw [h.cell]; rfl
theorem Cs.far (h : Cs w g c.cells.toArray T) (hl : c.h.length = 32) (j : Nat) : w.cell? ⟨g, 34 + j, none⟩ = ([Value.int .i64 c.ln, .int .i64 c.sb, .int .i64 c.mr] : List Value)[j]? := by
 rw [h.cell]
 simp only [List.getElem?_toArray, Cm.cells]
 rw [List.getElem?_append_right (by simp; omega), List.getElem?_append_right (by simp [hl]; omega)]
 simp only [List.length_cons, List.length_nil, List.length_map, hl]
 congr 1
 omega
theorem Cs.hash (h : Cs w g c.cells.toArray T) : ∀ j u, (c.h.map bv)[j]? = some u → w.cell? ⟨g, 2 + j, none⟩ = some u := by
 intro j u hu
 rw [h.cell]
 simp only [List.getElem?_toArray, Cm.cells]
 rw [List.getElem?_append_right (by simp), List.getElem?_append_left (by simpa using (List.getElem?_eq_some_iff.1 hu).1)]
 simpa using hu
theorem Cs.name (h : Cs w g c.cells.toArray T) : ∀ j u, ([Value.int .i64 c.cl, .int .i64 c.sq] : List Value)[j]? = some u → w.cell? ⟨g, 0 + j, none⟩ = some u := by
 intro j u hu
 rw [Nat.zero_add, h.cell]
 simp only [List.getElem?_toArray, Cm.cells]
 rw [List.getElem?_append_left (List.getElem?_eq_some_iff.1 hu).1]
 exact hu
theorem Cs.whole {cs : List Value} (h : Cs w g cs.toArray T) : ∀ j u, cs[j]? = some u → w.cell? ⟨g, 0 + j, none⟩ = some u := by
 intro j u hu
 rw [Nat.zero_add, h.cell]
 simpa using hu
end
end Go.Gv
namespace Go.Proofs.Ytekbmpjdombedaa
open Go Go.RowKit Go.Gv
end Go.Proofs.Ytekbmpjdombedaa

/- Hashes as keys of maps; zeros. -/
namespace Go.Proofs.Ytekbmpjdombedaa
open Go Go.RowKit Go.Gv
open Go.Maps (Keyed)

/-- a hash -/
def HK (bs : List Int) : Prop := bs.length = 32 ∧ Bytes bs
end Go.Proofs.Ytekbmpjdombedaa

/- The kinds of things that messages are made of: their cells, what reads as one. -/
namespace Go.Proofs.Ytekbmpjdombedaa
open Go Go.RowKit Go.Gv

/-- a stamp, or an ack -/
structure St where
 rp : Int
 cl : Int
 sq : Int
 h : List Int
 tm : Nat
 sb : Int
 mr : Int
abbrev St.cells (x : St) : List Value := [.int .i64 x.rp, .int .i64 x.cl, .int .i64 x.sq] ++ (x.h.map bv ++ [.int .u64 (x.tm : Nat), .int .i64 x.sb, .int .i64 x.mr])
abbrev St.val (x : St) : Value := .agg x.cells.toArray
structure St.OK (x : St) : Prop where
 rp : I64 x.rp
 cl : I64 x.cl
 sq : I64 x.sq
 h : HK x.h
 tm : x.tm < U64
 sb : I64 x.sb
 mr : I64 x.mr
theorem St.len {x : St} (h : x.OK) : x.cells.length = 38 := by simp [St.cells, h.h.1]
theorem St.one (x : St) : ∀ u ∈ x.cells, u.oneCell' = true := by
 intro u hu
 simp only [St.cells, List.mem_append, List.mem_cons, List.not_mem_nil, or_false, List.mem_map] at hu
 rcases hu with (rfl | rfl | rfl) | ⟨y, -, rfl⟩ | rfl | rfl | rfl <;> rfl
def StR : Rep St := Rep.flat 38 (by decide) St.cells St.OK (fun a h => St.len h) (fun a _ => St.one a)
/-- a vote -/
structure Vt where
 kd : Int
 ep : Int
 rd : Int
 rp : Int
 h : List Int
 sb : Int
 mr : Int
abbrev Vt.cells (x : Vt) : List Value := [.int .i64 x.kd, .int .i64 x.ep, .int .i64 x.rd, .int .i64 x.rp] ++ (x.h.map bv ++ [.int .i64 x.sb, .int .i64 x.mr])
abbrev Vt.val (x : Vt) : Value := .agg x.cells.toArray
structure Vt.OK (x : Vt) : Prop where
 kd : I64 x.kd
 ep : I64 x.ep
 rd : I64 x.rd
 rp : I64 x.rp
 h : HK x.h
 sb : I64 x.sb
 mr : I64 x.mr
theorem Vt.len {x : Vt} (h : x.OK) : x.cells.length = 38 := by simp [Vt.cells, h.h.1]
theorem Vt.one (x : Vt) : ∀ u ∈ x.cells, u.oneCell' = true := by
 intro u hu
 simp only [Vt.cells, List.mem_append, List.mem_cons, List.not_mem_nil, or_false, List.mem_map] at hu
 rcases hu with (rfl | rfl | rfl | rfl) | ⟨y, -, rfl⟩ | rfl | rfl <;> rfl
def VtR : Rep Vt := Rep.flat 38 (by decide) Vt.cells Vt.OK (fun a h => Vt.len h) (fun a _ => Vt.one a)
/-- a denial -/
structure Dn where
 rp : Int
 ix : Int
 sb : Int
 mr : Int
abbrev Dn.cells (x : Dn) : List Value := [.int .i64 x.rp, .int .i64 x.ix, .int .i64 x.sb, .int .i64 x.mr]
abbrev Dn.val (x : Dn) : Value := .agg x.cells.toArray
structure Dn.OK (x : Dn) : Prop where
 rp : I64 x.rp
 ix : I64 x.ix
 sb : I64 x.sb
 mr : I64 x.mr
theorem Dn.len {x : Dn} (h : x.OK) : x.cells.length = 4 := by rfl
theorem Dn.one (x : Dn) : ∀ u ∈ x.cells, u.oneCell' = true := by
 intro u hu
 simp only [Dn.cells, List.mem_cons, List.not_mem_nil, or_false] at hu
 rcases hu with rfl | rfl | rfl | rfl <;> rfl
def DnR : Rep Dn := Rep.flat 4 (by decide) Dn.cells Dn.OK (fun a h => Dn.len h) (fun a _ => Dn.one a)
/-- an entry -/
structure En where
 cl : Int
 sq : Int
 h : List Int
 tm : Nat
abbrev En.cells (x : En) : List Value := [.int .i64 x.cl, .int .i64 x.sq] ++ (x.h.map bv ++ [.int .u64 (x.tm : Nat)])
abbrev En.val (x : En) : Value := .agg x.cells.toArray
structure En.OK (x : En) : Prop where
 cl : I64 x.cl
 sq : I64 x.sq
 h : HK x.h
 tm : x.tm < U64
theorem En.len {x : En} (h : x.OK) : x.cells.length = 35 := by simp [En.cells, h.h.1]
theorem En.one (x : En) : ∀ u ∈ x.cells, u.oneCell' = true := by
 intro u hu
 simp only [En.cells, List.mem_append, List.mem_cons, List.not_mem_nil, or_false, List.mem_map] at hu
 rcases hu with (rfl | rfl) | ⟨y, -, rfl⟩ | rfl <;> rfl
def EnR : Rep En := Rep.flat 35 (by decide) En.cells En.OK (fun a h => En.len h) (fun a _ => En.one a)

theorem RdR_keep {R : Nat → Prop} {N : Nat} {w w' : World} {v : Value} {bs : List Int} (h : RdR R N w v bs) (hk : ∀ p u, R p.block → w.cell? p = some u → w'.cell? p = some u) : RdR R N w' v bs :=
 ⟨⟨h.1.1, h.1.2.keepc fun h0 g hg p u hp hc => hk p u (hp ▸ h.2.1 h0 g hg) hc⟩, h.2⟩
theorem RdR_tight {R : Nat → Prop} {N : Nat} {w : World} {v : Value} {bs : List Int} (h : RdR R N w v bs) : RdR (fun k => R k ∧ k < w.heap.size) N w v bs :=
 ⟨h.1, fun h0 g hg => ⟨h.2.1 h0 g hg, h.1.2.lt (by decide) h0 hg⟩, h.2.2⟩
theorem Cm_one (c : Cm) : ∀ u ∈ c.cells, u.oneCell' = true := by
 intro u hu
 simp only [Cm.cells, List.mem_append, List.mem_cons, List.not_mem_nil, or_false, List.mem_map] at hu
 rcases hu with (rfl | rfl) | ⟨x, -, rfl⟩ | rfl | rfl | rfl <;> rfl
def CmR : Rep Cm := Rep.flat 37 (by decide) Cm.cells Cm.OK (fun a h => Cm.len h.2.1) (fun a _ => Cm_one a)
/-- a certificate -/
structure Ce where
 c : Cm
 l : List St
abbrev Ce.cells (x : Ce) (v_l : Value) : List Value := x.c.cells ++ [v_l]
def Ce.OK (x : Ce) : Prop := x.c.OK
def Ce.rd (R : Nat → Prop) (w : World) (cs : List Value) (x : Ce) : Prop := ∃ v_l, cs = x.cells v_l ∧ x.OK ∧ RdS StR R w v_l x.l
def CeR : Rep Ce where
 sz := 38
 pos := by decide
 rd := Ce.rd
 len h := by
  obtain ⟨v_l, rfl, hok, h0⟩ := h
  simp [Ce.cells, Cm.len hok.2.1]
 one h := by
  obtain ⟨v_l, rfl, hok, h0⟩ := h
  obtain ⟨_, _, e_l⟩ := h0.shape
  subst e_l
  intro u hu
  simp only [Ce.cells, List.mem_append, List.mem_cons, List.not_mem_nil, or_false, List.mem_map] at hu
  rcases hu with hu | rfl
  ·exact Cm_one _ _ hu
  ·rfl
 keep h hk := by
  obtain ⟨v_l, rfl, hok, h0⟩ := h
  exact ⟨_, rfl, hok, h0.keep hk⟩
 wid h hs := by
  obtain ⟨v_l, rfl, hok, h0⟩ := h
  exact ⟨_, rfl, hok, h0.widen hs⟩
 tight h := by
  obtain ⟨v_l, rfl, hok, h0⟩ := h
  exact ⟨_, rfl, hok, h0.tight⟩
/-- a promise -/
structure Pm where
 rp : Int
 ep : Int
 fl : Nat
 l : List Ce
 sb : Int
 mr : Int
abbrev Pm.cells (x : Pm) (v_l : Value) : List Value := [.int .i64 x.rp, .int .i64 x.ep, .int .u64 (x.fl : Nat), v_l, .int .i64 x.sb, .int .i64 x.mr]
def Pm.OK (x : Pm) : Prop := I64 x.rp ∧ I64 x.ep ∧ x.fl < U64 ∧ I64 x.sb ∧ I64 x.mr
def Pm.rd (R : Nat → Prop) (w : World) (cs : List Value) (x : Pm) : Prop := ∃ v_l, cs = x.cells v_l ∧ x.OK ∧ RdS CeR R w v_l x.l
def PmR : Rep Pm where
 sz := 6
 pos := by decide
 rd := Pm.rd
 len h := by
  obtain ⟨v_l, rfl, hok, h0⟩ := h
  rfl
 one h := by
  obtain ⟨v_l, rfl, hok, h0⟩ := h
  obtain ⟨_, _, e_l⟩ := h0.shape
  subst e_l
  intro u hu
  simp only [Pm.cells, List.mem_append, List.mem_cons, List.not_mem_nil, or_false, List.mem_map] at hu
  rcases hu with rfl | rfl | rfl | rfl | rfl | rfl <;> rfl
 keep h hk := by
  obtain ⟨v_l, rfl, hok, h0⟩ := h
  exact ⟨_, rfl, hok, h0.keep hk⟩
 wid h hs := by
  obtain ⟨v_l, rfl, hok, h0⟩ := h
  exact ⟨_, rfl, hok, h0.widen hs⟩
 tight h := by
  obtain ⟨v_l, rfl, hok, h0⟩ := h
  exact ⟨_, rfl, hok, h0.tight⟩
/-- an opening -/
structure Op where
 ix : Int
 pl : List Int
 nc : List Int
abbrev Op.cells (x : Op) (v_pl : Value) : List Value := [.int .i64 x.ix, v_pl] ++ x.nc.map bv
def Op.OK (x : Op) : Prop := I64 x.ix ∧ HK x.nc
def Op.rd (R : Nat → Prop) (w : World) (cs : List Value) (x : Op) : Prop := ∃ v_pl, cs = x.cells v_pl ∧ x.OK ∧ RdR R x.pl.length w v_pl x.pl
def OpR : Rep Op where
 sz := 34
 pos := by decide
 rd := Op.rd
 len h := by
  obtain ⟨v_pl, rfl, hok, h0⟩ := h
  simp [Op.cells, hok.2.1]
 one h := by
  obtain ⟨v_pl, rfl, hok, h0⟩ := h
  obtain ⟨_, _, e_pl⟩ := h0.shape
  subst e_pl
  intro u hu
  simp only [Op.cells, List.mem_append, List.mem_cons, List.not_mem_nil, or_false, List.mem_map] at hu
  rcases hu with (rfl | rfl) | ⟨y, -, rfl⟩ <;> rfl
 keep h hk := by
  obtain ⟨v_pl, rfl, hok, h0⟩ := h
  exact ⟨_, rfl, hok, RdR_keep h0 hk⟩
 wid h hs := by
  obtain ⟨v_pl, rfl, hok, h0⟩ := h
  exact ⟨_, rfl, hok, h0.widen hs (Nat.le_refl _)⟩
 tight h := by
  obtain ⟨v_pl, rfl, hok, h0⟩ := h
  exact ⟨_, rfl, hok, RdR_tight h0⟩
/-- a tombstone -/
structure Tb where
 ix : Int
 l : List Dn
abbrev Tb.cells (x : Tb) (v_l : Value) : List Value := [.int .i64 x.ix, v_l]
def Tb.OK (x : Tb) : Prop := I64 x.ix
def Tb.rd (R : Nat → Prop) (w : World) (cs : List Value) (x : Tb) : Prop := ∃ v_l, cs = x.cells v_l ∧ x.OK ∧ RdS DnR R w v_l x.l
def TbR : Rep Tb where
 sz := 2
 pos := by decide
 rd := Tb.rd
 len h := by
  obtain ⟨v_l, rfl, hok, h0⟩ := h
  rfl
 one h := by
  obtain ⟨v_l, rfl, hok, h0⟩ := h
  obtain ⟨_, _, e_l⟩ := h0.shape
  subst e_l
  intro u hu
  simp only [Tb.cells, List.mem_append, List.mem_cons, List.not_mem_nil, or_false, List.mem_map] at hu
  rcases hu with rfl | rfl <;> rfl
 keep h hk := by
  obtain ⟨v_l, rfl, hok, h0⟩ := h
  exact ⟨_, rfl, hok, h0.keep hk⟩
 wid h hs := by
  obtain ⟨v_l, rfl, hok, h0⟩ := h
  exact ⟨_, rfl, hok, h0.widen hs⟩
 tight h := by
  obtain ⟨v_l, rfl, hok, h0⟩ := h
  exact ⟨_, rfl, hok, h0.tight⟩
/-- a batch -/
structure Ba where
 ep : Int
 tm : Nat
 ps : List Pm
 os : List Op
 ts : List Tb
abbrev Ba.cells (x : Ba) (v_ps v_os v_ts : Value) : List Value := [.int .i64 x.ep, .int .u64 (x.tm : Nat), v_ps, v_os, v_ts]
def Ba.OK (x : Ba) : Prop := I64 x.ep ∧ x.tm < U64
def Ba.rd (R : Nat → Prop) (w : World) (cs : List Value) (x : Ba) : Prop := ∃ v_ps v_os v_ts, cs = x.cells v_ps v_os v_ts ∧ x.OK ∧ RdS PmR R w v_ps x.ps ∧ RdS OpR R w v_os x.os ∧ RdS TbR R w v_ts x.ts
def BaR : Rep Ba where
 sz := 5
 pos := by decide
 rd := Ba.rd
 len h := by
  obtain ⟨v_ps, v_os, v_ts, rfl, hok, h0, h1, h2⟩ := h
  rfl
 one h := by
  obtain ⟨v_ps, v_os, v_ts, rfl, hok, h0, h1, h2⟩ := h
  obtain ⟨_, _, e_ps⟩ := h0.shape
  obtain ⟨_, _, e_os⟩ := h1.shape
  obtain ⟨_, _, e_ts⟩ := h2.shape
  subst e_ps e_os e_ts
  intro u hu
  simp only [Ba.cells, List.mem_append, List.mem_cons, List.not_mem_nil, or_false, List.mem_map] at hu
  rcases hu with rfl | rfl | rfl | rfl | rfl <;> rfl
 keep h hk := by
  obtain ⟨v_ps, v_os, v_ts, rfl, hok, h0, h1, h2⟩ := h
  exact ⟨_, _, _, rfl, hok, h0.keep hk, h1.keep hk, h2.keep hk⟩
 wid h hs := by
  obtain ⟨v_ps, v_os, v_ts, rfl, hok, h0, h1, h2⟩ := h
  exact ⟨_, _, _, rfl, hok, h0.widen hs, h1.widen hs, h2.widen hs⟩
 tight h := by
  obtain ⟨v_ps, v_os, v_ts, rfl, hok, h0, h1, h2⟩ := h
  exact ⟨_, _, _, rfl, hok, h0.tight, h1.tight, h2.tight⟩
/-- a proposal -/
structure Pr where
 ep : Int
 rn : Int
 vl : Int
 rp : Int
 ba : Ba
 sb : Int
 mr : Int
abbrev Pr.cells (x : Pr) (v_ps v_os v_ts : Value) : List Value := [.int .i64 x.ep, .int .i64 x.rn, .int .i64 x.vl, .int .i64 x.rp, .int .i64 x.ba.ep, .int .u64 (x.ba.tm : Nat), v_ps, v_os, v_ts, .int .i64 x.sb, .int .i64 x.mr]
def Pr.OK (x : Pr) : Prop := I64 x.ep ∧ I64 x.rn ∧ I64 x.vl ∧ I64 x.rp ∧ x.ba.OK ∧ I64 x.sb ∧ I64 x.mr
def Pr.rd (R : Nat → Prop) (w : World) (cs : List Value) (x : Pr) : Prop := ∃ v_ps v_os v_ts, cs = x.cells v_ps v_os v_ts ∧ x.OK ∧ RdS PmR R w v_ps x.ba.ps ∧ RdS OpR R w v_os x.ba.os ∧ RdS TbR R w v_ts x.ba.ts
def PrR : Rep Pr where
 sz := 11
 pos := by decide
 rd := Pr.rd
 len h := by
  obtain ⟨v_ps, v_os, v_ts, rfl, hok, h0, h1, h2⟩ := h
  rfl
 one h := by
  obtain ⟨v_ps, v_os, v_ts, rfl, hok, h0, h1, h2⟩ := h
  obtain ⟨_, _, e_ps⟩ := h0.shape
  obtain ⟨_, _, e_os⟩ := h1.shape
  obtain ⟨_, _, e_ts⟩ := h2.shape
  subst e_ps e_os e_ts
  intro u hu
  simp only [Pr.cells, List.mem_append, List.mem_cons, List.not_mem_nil, or_false, List.mem_map] at hu
  rcases hu with rfl | rfl | rfl | rfl | rfl | rfl | rfl | rfl | rfl | rfl | rfl <;> rfl
 keep h hk := by
  obtain ⟨v_ps, v_os, v_ts, rfl, hok, h0, h1, h2⟩ := h
  exact ⟨_, _, _, rfl, hok, h0.keep hk, h1.keep hk, h2.keep hk⟩
 wid h hs := by
  obtain ⟨v_ps, v_os, v_ts, rfl, hok, h0, h1, h2⟩ := h
  exact ⟨_, _, _, rfl, hok, h0.widen hs, h1.widen hs, h2.widen hs⟩
 tight h := by
  obtain ⟨v_ps, v_os, v_ts, rfl, hok, h0, h1, h2⟩ := h
  exact ⟨_, _, _, rfl, hok, h0.tight, h1.tight, h2.tight⟩
end Go.Proofs.Ytekbmpjdombedaa

/- A block's cells as parts, one behind the other: what lies at a part, what is laid over one, what a struct is built of. No program here. -/
namespace Go.Gv
open Go Go.RowKit

theorem seg_get : ∀ (segs : List (List Value)) (i : Nat) {seg : List Value} (hs : segs[i]? = some seg) (j : Nat) (u : Value), seg[j]? = some u → segs.flatten[((segs.map List.length).take i).sum + j]? = some u
 | [], i, seg, hs, j, u, hu => by simp at hs
 | a :: r, 0, seg, hs, j, u, hu => by
  simp only [List.getElem?_cons_zero, Option.some.injEq] at hs
  subst hs
  rw [List.take_zero, List.sum_nil, Nat.zero_add, List.flatten_cons, List.getElem?_append_left (List.getElem?_eq_some_iff.1 hu).1]
  exact hu
 | a :: r, i + 1, seg, hs, j, u, hu => by
  rw [List.getElem?_cons_succ] at hs
  rw [List.map_cons, List.take_succ_cons, List.sum_cons, List.flatten_cons, List.getElem?_append_right (by omega), show a.length + ((r.map List.length).take i).sum + j - a.length = ((r.map List.length).take i).sum + j by omega]
  exact seg_get r i hs j u hu
theorem Cs.seg {w : World} {g : Nat} {T : TypeId} {segs : List (List Value)} (h : Cs w g segs.flatten.toArray T) {ns : List Nat} (hn : segs.map List.length = ns) (i : Nat) {seg : List Value} (hs : segs[i]? = some seg) {off : Nat} (ho : (ns.take i).sum = off) : ∀ j u, seg[j]? = some u → w.cell? ⟨g, off + j, none⟩ = some u := by
 intro j u hu
 rw [h.cell, ← ho, ← hn]
 simpa using seg_get segs i hs j u hu
theorem Cs.seg1 {w : World} {g : Nat} {T : TypeId} {segs : List (List Value)} (h : Cs w g segs.flatten.toArray T) {ns : List Nat} (hn : segs.map List.length = ns) (i : Nat) {seg : List Value} (hs : segs[i]? = some seg) {off o k : Nat} (ho : (ns.take i).sum = o) (hk : off = o + k) {u : Value} (hu : seg[k]? = some u) : w.cell? ⟨g, off, none⟩ = some u := by
 subst hk
 exact h.seg hn i hs ho k u hu
theorem lay_mid (a m b : List Value) (vs : List Value) (h : vs.length = m.length) : lay (a ++ (m ++ b)).toArray a.length vs = (a ++ (vs ++ b)).toArray := by
 unfold lay
 congr 1
 simp [h]
theorem seg_split : ∀ (segs : List (List Value)) (i : Nat) {seg : List Value} (hs : segs[i]? = some seg), ∃ a b, segs.flatten = a ++ (seg ++ b) ∧ a.length = ((segs.map List.length).take i).sum ∧ ∀ v : List Value, (segs.set i v).flatten = a ++ (v ++ b)
 | [], i, seg, hs => by simp at hs
 | x :: r, 0, seg, hs => by
  simp only [List.getElem?_cons_zero, Option.some.injEq] at hs
  subst hs
  exact ⟨[], r.flatten, rfl, rfl, fun v => rfl⟩
 | x :: r, i + 1, seg, hs => by
  rw [List.getElem?_cons_succ] at hs
  obtain ⟨a, b, h1, h2, h3⟩ := seg_split r i hs
  refine ⟨x ++ a, b, by rw [List.flatten_cons, h1, List.append_assoc], by simp [h2], fun v => ?_⟩
  rw [sCS, List.flatten_cons, h3, List.append_assoc]
theorem lay_seg {segs : List (List Value)} {ns : List Nat} (hn : segs.map List.length = ns) (i : Nat) {vs : List Value} (hv : ns[i]? = some vs.length) {off : Nat} (ho : (ns.take i).sum = off) : lay segs.flatten.toArray off vs = ((segs.set i vs).flatten).toArray := by
 subst hn
 rw [List.getElem?_map] at hv
 cases hs : segs[i]? with
 | none => rw [hs] at hv; cases hv
 | some seg =>
  rw [hs] at hv
  simp only [Option.map_some, Option.some.injEq] at hv
  obtain ⟨a, b, h1, h2, h3⟩ := seg_split segs i hs
  rw [h1, h3, ← ho, ← h2]
  exact lay_mid a seg b vs hv.symm
/-- where parts of such lengths lie -/
def offs : Nat → List Nat → List (Nat × Nat)
 | _, [] => []
 | o, n :: ns => (o, n) :: offs (o + n) ns
theorem offs_get : ∀ (ns : List Nat) (o i : Nat), (offs o ns)[i]? = (ns[i]?).map fun n => (o + (ns.take i).sum, n)
 | [], o, i => by simp [offs]
 | n :: ns, o, 0 => by simp [offs]
 | n :: ns, o, i + 1 => by
  simp only [offs, List.getElem?_cons_succ, offs_get ns (o + n) i, List.take_succ_cons, List.sum_cons]
  congr 1
  funext m
  rw [Nat.add_assoc]
/-- parts, each where it belongs -/
def setAll : List (List Value) → List (Nat × Value) → List (List Value)
 | segs, [] => segs
 | segs, (i, v) :: ps => setAll (segs.set i v.cells.toList) ps
def PartsOk (ns : List Nat) : List (Nat × Value) → Prop
 | [] => True
 | (i, v) :: ps => ns[i]? = some v.cells.size ∧ PartsOk ns ps
theorem set_lens {segs : List (List Value)} {ns : List Nat} (hn : segs.map List.length = ns) (i : Nat) {vs : List Value} (hv : ns[i]? = some vs.length) : (segs.set i vs).map List.length = ns := by
 subst hn
 rw [List.map_set]
 exact List.ext_getElem? fun j => by
  rcases Nat.lt_trichotomy i j with h | h | h
  ·rw [List.getElem?_set_ne (by omega)]
  ·subst h
   rw [List.getElem?_set_self (List.getElem?_eq_some_iff.1 hv).1, hv]
  ·rw [List.getElem?_set_ne (by omega)]
theorem laid_segs {places : List (Nat × Nat)} {ns : List Nat} (hp : places = offs 0 ns) : ∀ (parts : List (Nat × Value)) (segs : List (List Value)), segs.map List.length = ns → PartsOk ns parts → laid places segs.flatten parts = some (setAll segs parts).flatten
 | [], segs, _, _ => by unfold laid setAll; rfl
 | (i, v) :: ps, segs, hn, h => by
  obtain ⟨h1, h2⟩ := h
  have h1' : ns[i]? = some v.cells.toList.length := by simpa using h1
  have hl := lay_seg hn i h1' rfl
  unfold laid setAll
  rw [hp, offs_get, h1]
  simp only [Option.map_some, Nat.zero_add]
  have hlen : (ns.take i).sum + v.cells.size ≤ segs.flatten.length := by
   subst hn
   rw [List.getElem?_map] at h1
   cases hs : segs[i]? with
   | none => rw [hs] at h1; cases h1
   | some seg =>
    rw [hs] at h1
    simp only [Option.map_some, Option.some.injEq] at h1
    obtain ⟨a, b, e1, e2, -⟩ := seg_split segs i hs
    rw [e1, ← e2, ← h1]
    simp
  rw [if_neg (by omega)]
  have e : (segs.flatten.take (ns.take i).sum ++ v.cells.toList ++ segs.flatten.drop ((ns.take i).sum + v.cells.size)) = (segs.set i v.cells.toList).flatten := by
   have := congrArg Array.toList hl
   simpa [lay] using this
  simp only [e] at *
  rw [← hp]
  exact laid_segs hp ps _ (set_lens hn i h1') h2
end Go.Gv

/- Small parts of messages, put as bytes. -/
namespace Go.Proofs.Ytekbmpjdombedaa
open Go Go.RowKit Go.Gv


end Go.Proofs.Ytekbmpjdombedaa

/- What the readers of parts answer, in plain words; that what was put is read as it was, and that what is read was put so. -/
namespace Go.Proofs.Ytekbmpjdombedaa
open Go Go.RowKit Go.Gv

/-- one read behind the other -/
def gb {α β : Type} (g : RSt → α × RSt) (k : α → RSt → β × RSt) (s : RSt) : β × RSt := k (g s).1 (g s).2
/-- what is read was put so -/
def De {α : Type} (g : RSt → α × RSt) (Q : α → List Int → List Int → Prop) : Prop := ∀ s r, (g s).2 = some r → ∃ l, s = some l ∧ (Bytes l → Q (g s).1 l r)
def Was {α : Type} (put : α → List Int) (ok : α → Prop) (x : α) (l r : List Int) : Prop := l = put x ++ r ∧ ok x
theorem De.bind {α β : Type} {g : RSt → α × RSt} {k : α → RSt → β × RSt} {put : α → List Int} {ok : α → Prop} {Q : α → β → List Int → List Int → Prop} (hg : De g (Was put ok)) (hk : ∀ a, De (k a) (Q a)) :
    De (gb g k) (fun y l r => ∃ a l1, ok a ∧ l = put a ++ l1 ∧ Q a y l1 r) := by
  intro s r h
  obtain ⟨l1, e1, h1⟩ := hk _ _ _ h
  obtain ⟨l, rfl, h2⟩ := hg _ _ e1
  refine ⟨l, rfl, fun hb => ?_⟩
  obtain ⟨h3, h4⟩ := h2 hb
  refine ⟨_, l1, h4, h3, h1 (fun x hx => hb x ?_)⟩
  rw [h3]
  exact List.mem_append_right _ hx
theorem De.pure {β : Type} (y : β) : De (fun s => (y, s)) (fun y' l r => y' = y ∧ l = r) := by
  intro s r h
  exact ⟨r, h, fun _ => ⟨rfl, rfl⟩⟩
theorem De.mono {β : Type} {g : RSt → β × RSt} {Q Q' : β → List Int → List Int → Prop} (h : De g Q) (hq : ∀ y l r, Q y l r → Q' y l r) : De g Q' := by
  intro s r hr
  obtain ⟨l, e, h2⟩ := h s r hr
  exact ⟨l, e, fun hb => hq _ _ _ (h2 hb)⟩
theorem De.none {α : Type} {g : RSt → α × RSt} {Q : α → List Int → List Int → Prop} (h : De g Q) : ∀ s, s = none → (g s).2 = none := by
  intro s e
  cases hq : (g s).2 with
  | none => rfl
  | some r => obtain ⟨l, e2, -⟩ := h s r hq; rw [e] at e2; cases e2
/-! printed -/
end Go.Proofs.Ytekbmpjdombedaa

/- gavelref01.Reader: numbers, rows, hashes as the document reads them; code.Reader.Row for any bound. -/
namespace Go.Proofs.Ytekbmpjdombedaa
open Go Go.RowKit Go.Gv

end Go.Proofs.Ytekbmpjdombedaa

/- gavelref01.Reader: rows. -/
namespace Go.Proofs.Ytekbmpjdombedaa
open Go Go.RowKit Go.Gv

end Go.Proofs.Ytekbmpjdombedaa

/- gavelref01.Reader: hashes. -/
namespace Go.Proofs.Ytekbmpjdombedaa
open Go Go.RowKit Go.Gv

section
variable {R : Nat → Prop} {r : Nat} {s : RSt} {w : World}
end
end Go.Proofs.Ytekbmpjdombedaa

/- code.Reader.Row with any bound, over a text that is not long. -/
namespace Go.Proofs.Ytekbmpjdombedaa
open Go Go.RowKit Go.Gv

end Go.Proofs.Ytekbmpjdombedaa

/- Readers of parts: what they leave of a text, whether what they read is a thing of its kind; contracts. -/
namespace Go.Proofs.Ytekbmpjdombedaa
open Go Go.RowKit Go.Gv

/-- what is left is an end of what there was -/
def Suf {α : Type} (g : RSt → α × RSt) : Prop := ∀ s, (g s).2 = none ∨ ∃ l k, s = some l ∧ (g s).2 = some (l.drop k)
theorem Suf.no {α : Type} {g : RSt → α × RSt} (h : Suf g) : (g none).2 = none := by
  rcases h none with h | ⟨l, k, e, -⟩
  · exact h
  · cases e
theorem Suf.bytes {α : Type} {g : RSt → α × RSt} (h : Suf g) {s : RSt} (hb : Bytes (s.getD [])) : Bytes ((g s).2.getD []) := by
  rcases h s with e | ⟨l, k, rfl, e⟩
  · rw [e]; exact Bytes.nil
  · rw [e]; exact Bytes.drop hb k
theorem Suf.len {α : Type} {g : RSt → α × RSt} (h : Suf g) (s : RSt) : ((g s).2.getD []).length ≤ (s.getD []).length := by
  rcases h s with e | ⟨l, k, rfl, e⟩
  · rw [e]; simp
  · rw [e]; simp
/-! what is read is a thing -/
theorem RrR.bytes {T : TypeId} {R : Nat → Prop} {w : World} {r : Nat} {s : RSt} (h : RrR T R w r s) : Bytes (s.getD []) := by
  obtain ⟨v, h1, -⟩ := h
  exact h1.2.1.1
/-! contracts -/
/-- a flat thing is read -/
def GetsF {α : Type} (T : TypeId) (F : FuncId) (cells : α → List Value) (g : RSt → α × RSt) : Prop := ∀ (R : Nat → Prop) (r : Nat) (s : RSt) (w : World), RrR T R w r s → (∀ k, R k → k < w.heap.size) →
  Calls Try.prog F #[.pointer (some ⟨r, 0, none⟩)] w fun e w' => e = .returned (.agg (cells (g s).1).toArray) ∧ RrR T R w' r (g s).2 ∧ Mod R w w'
/-- a thing is read -/
def Gets {α : Type} (A : Rep α) (T : TypeId) (F : FuncId) (g : RSt → α × RSt) : Prop := ∀ (R : Nat → Prop) (r : Nat) (s : RSt) (w : World), RrR T R w r s → (∀ k, R k → k < w.heap.size) → (s.getD []).length ≤ 900000 →
  Calls Try.prog F #[.pointer (some ⟨r, 0, none⟩)] w fun e w' => ∃ cs, e = .returned (.agg cs.toArray) ∧ A.rd (New w w') w' cs (g s).1 ∧ RrR T R w' r (g s).2 ∧ Mod R w w'
theorem Gets.to {α : Type} {A : Rep α} {T : TypeId} {F : FuncId} {g : RSt → α × RSt} (h : Gets A T F g) {s s' : RSt} {x : α} (hx : (g s).1 = x) (hs : (g s).2 = s') {R : Nat → Prop} {r : Nat} {w : World} (h1 : RrR T R w r s) (h2 : ∀ k, R k → k < w.heap.size) (h3 : (s.getD []).length ≤ 900000) :
    Calls Try.prog F #[.pointer (some ⟨r, 0, none⟩)] w fun e w' => ∃ cs, e = .returned (.agg cs.toArray) ∧ A.rd (New w w') w' cs x ∧ RrR T R w' r s' ∧ Mod R w w' := by
  subst hx hs
  exact h R r s w h1 h2 h3
theorem GetsF.to {α : Type} {cells : α → List Value} {T : TypeId} {F : FuncId} {g : RSt → α × RSt} (h : GetsF T F cells g) {A : Rep α} (hA : ∀ (R : Nat → Prop) (w : World) (s : RSt), Bytes (s.getD []) → A.rd R w (cells (g s).1) (g s).1) : Gets A T F g := by
  intro R r s w h1 h2 h3
  exact (h R r s w h1 h2).mono fun e w' ⟨he, h4, h5⟩ => ⟨_, he, hA _ _ s h1.bytes, h4, h5⟩
section
variable {R : Nat → Prop} {r : Nat} {s : RSt} {w : World}
end
end Go.Proofs.Ytekbmpjdombedaa

/- Things that are nothing. No walk here. -/
namespace Go.Proofs.Ytekbmpjdombedaa
open Go Go.RowKit Go.Gv

def zCe : Ce := ⟨⟨0, 0, List.replicate 32 0, 0, 0, 0⟩, []⟩
def zPm : Pm := ⟨0, 0, 0, [], 0, 0⟩
def zBa : Ba := ⟨0, 0, [], [], []⟩
theorem HK_zero : HK (List.replicate 32 0) := by
 refine ⟨by simp, ?_⟩
 intro x hx
 simp at hx
 subst hx
 decide
theorem I64_0 : I64 0 := by unfold I64; decide
theorem U64_0 : 0 < U64 := by unfold U64; decide
theorem zCe_OK : zCe.OK := ⟨⟨I64_0, I64_0, I64_0, I64_0, I64_0⟩, HK_zero⟩
theorem zPm_OK : zPm.OK := ⟨I64_0, I64_0, U64_0, I64_0, I64_0⟩
theorem zBa_OK : zBa.OK := ⟨I64_0, U64_0⟩
theorem zCe_rd (R : Nat → Prop) (w : World) : CeR.rd R w (zCe.cells (.slice none 0 0)) zCe := ⟨_, rfl, zCe_OK, RdS.nil _ _ _⟩
theorem zPm_rd (R : Nat → Prop) (w : World) : PmR.rd R w (zPm.cells (.slice none 0 0)) zPm := ⟨_, rfl, zPm_OK, RdS.nil _ _ _⟩
end Go.Proofs.Ytekbmpjdombedaa

/- Parts of messages, put as bytes. -/
namespace Go.Proofs.Ytekbmpjdombedaa
open Go Go.RowKit Go.Gv

end Go.Proofs.Ytekbmpjdombedaa

/- More parts of messages, put as bytes. -/
namespace Go.Proofs.Ytekbmpjdombedaa
open Go Go.RowKit Go.Gv


end Go.Proofs.Ytekbmpjdombedaa

/- gavelref01.join: bytes, one behind the other; a region that joins what calls answer. -/
namespace Go.Gv
open Go Go.RowKit
section
variable {P : Program} {o : Oper} {a : Act} {w w' : World}
end
/-- marks turn no cell -/
theorem Marked.cell {B : Nat} {T8 : TypeId} {w w' : World} (hm : Marked B T8 w w') {p : Addr} {u : Value} (h : w.cell? p = some u) : w'.cell? p = some u := by
  have hlt := World.block_lt_of_cell? _ _ h
  rcases hm.block p.block hlt with h1 | ⟨-, C, m, h1, h2⟩
  · exact (World.cell?_of_block h1).trans h
  · unfold World.cell? at h ⊢
    rw [h1] at h
    rw [h2]
    exact h
theorem Rd.cells {s n : Nat} {w w' : World} {v : Value} {cs : List Value} (h : Rd s w v n cs) (hc : ∀ p u, w.cell? p = some u → w'.cell? p = some u) : Rd s w' v n cs := by
  obtain ⟨hl, ao, cap, rfl, h1, h2, h3, h4⟩ := h
  exact ⟨hl, ao, cap, rfl, h1, h2, h3, fun x hx j u hu => ⟨(h4 x hx j u hu).1, hc _ _ (h4 x hx j u hu).2⟩⟩
theorem Rd.old {s n : Nat} {w : World} {v : Value} {cs : List Value} (hs : 0 < s) (h : Rd s w v n cs) (h0 : 0 < n) : ∀ g, v.ownBlock = some g → g < w.heap.size := by
  rcases h.form hs with ⟨rfl, _⟩ | ⟨g, o, cap, _, rfl, _, _, hl, hc⟩
  · omega
  · intro g' hg
    have e : g = g' := by simpa [Value.ownBlock] using hg
    subst e
    have hlt : 0 < cs.length := by rw [hl]; exact Nat.mul_pos h0 hs
    exact World.block_lt_of_cell? _ _ (hc 0 _ (List.getElem?_eq_getElem hlt))
end Go.Gv
namespace Go.Proofs.Ytekbmpjdombedaa
open Go Go.RowKit Go.Gv

theorem RdB.cells {w w' : World} {v : Value} {bs : List Int} (h : RdB w v bs) (hc : ∀ p u, w.cell? p = some u → w'.cell? p = some u) : RdB w' v bs := ⟨h.1, h.2.cells hc⟩
/-- rows of bytes: the outer list, and each row where it lies -/
structure RdJ (w : World) (v : Value) (rs : List (Value × List Int)) : Prop where
  o : Rd 1 w v rs.length (rs.map (·.1))
  f : ∀ p ∈ rs, RdB w p.1 p.2
theorem RdJ.cells {w w' : World} {v : Value} {rs : List (Value × List Int)} (h : RdJ w v rs) (hc : ∀ p u, w.cell? p = some u → w'.cell? p = some u) : RdJ w' v rs := ⟨h.o.cells hc, fun p hp => (h.f p hp).cells hc⟩
theorem RdJ.shape {w : World} {v : Value} {rs : List (Value × List Int)} (h : RdJ w v rs) : ∃ ao cap, v = .slice ao rs.length cap := by
  obtain ⟨_, ao, cap, e, _⟩ := h.o
  exact ⟨ao, cap, e⟩
theorem RdJ.at {w : World} {ao : Option Addr} {n cap : Nat} {rs : List (Value × List Int)} (h : RdJ w (.slice ao n cap) rs) {i : Nat} (hi : i < rs.length) :
    ∃ g o, ao = some ⟨g, o, none⟩ ∧ g < w.heap.size ∧ w.cell? ⟨g, o + i, none⟩ = some rs[i].1 := by
  rcases h.o.form (by decide) with ⟨h0, _⟩ | ⟨g, o, cap', h0, hv, h1, h2, hl, hc⟩
  · omega
  · simp only [Value.slice.injEq] at hv
    obtain ⟨rfl, rfl, rfl⟩ := hv
    exact ⟨g, o, rfl, h.o.old (by decide) h0 g rfl, hc i _ (by simp [List.getElem?_eq_getElem hi])⟩
/-- a new outer list -/
theorem RdJ.new {w : World} {e : TypeId} {rs : List (Value × List Int)} (h : ∀ p ∈ rs, RdB w p.1 p.2) (hl : rs.length ≤ 1000) {C : Array Value} (hC : C = (rs.map (·.1)).toArray) {n : Nat} (hn : n = rs.length) : RdJ (w.alloc (.cells C e)) (.slice (some ⟨w.heap.size, 0, none⟩) n n) rs := by
  subst hC
  subst hn
  refine ⟨Rd.mk (Nat.le_refl _) (by rw [maxLen_val]; omega) (by simp) fun j y hy => ?_, fun p hp => (h p hp).alloc _⟩
  rw [Nat.zero_add, (Cs.new w _ e).cell]
  simpa using hy
def flat (rs : List (Value × List Int)) : List Int := (rs.map (·.2)).flatten
theorem litG.rd {B K : Nat} {bs : List Int} {t : List Value} {v : Value} {w : World} (h : litG B 5 K (bs.map bv).toArray t v w) (hk : t.length ≤ K) (hb : Bytes bs) (hl : bs.length ≤ 1000000) : RdB w v bs := by
  obtain ⟨g, rfl, -, m, -, h4⟩ := h hk
  have e : (bs.map bv).toArray.size = bs.length := by simp
  rw [e]
  refine ⟨hb, Rd.mk (Nat.le_refl _) (by rw [maxLen_val]; omega) (by simp) fun j y hy => ?_⟩
  rw [Nat.zero_add]
  simp only [World.cell?, h4]
  simpa using hy
theorem StillM.obj {B K k : Nat} {w w' : World} (h : StillM B 5 K k w w') {g : Nat} {c : Array Value} {e : TypeId} (hc : Cs w g c e) (he : e ≠ 5) : Cs w' g c e := by
  rcases h with h | ⟨-, h⟩
  · exact hc.mod h (fun h => h)
  · rcases h.block g hc.lt with h1 | ⟨-, C, m, h1, -⟩
    · exact h1.trans hc
    · unfold Cs at hc
      rw [hc] at h1
      cases h1
      exact absurd rfl he
end Go.Proofs.Ytekbmpjdombedaa

/- Bytes in regions told step by step: appends, rows of rows, strings as bytes, writers' ends. -/
namespace Go.Proofs.Ytekbmpjdombedaa
open Go Go.RowKit Go.Gv

section
variable {ops : Array Oper} {Q : Exit → Act → World → Prop} {i : Nat} {o : Oper} {a : Act} {w : World} {KQ : Value → World → Prop} {B : Nat} {S0 Z : Nat → Prop} {t : List Value} {l : List QPred}
/-- one of the chain appends bytes -/
theorem qc_appR {s x : Operand} {R R' : Nat → Prop} {N M : Nat} {v xv : Value} {bs new : List Int} (ho : ops[i]? = some o) (hw : Region.wanted o (yielded ops a.tmps) = true) (hop : o.op = .call { callee := .builtin .append, args := #[s, x], argTypes := #[58, 58] })
    (hs : a.eval s = v) (hx : a.eval x = xv) (hown : OwR R N w v bs) (hrd : RdR R' M w xv new) (hroom : (bs ++ new).length ≤ 900000)
    (h : ∀ ao cap w', OwR (fun k => R k ∨ New w w' k) 900000 w' (.slice ao (bs.length + new.length) cap) (bs ++ new) → Mod R w w' → KQ (.slice ao (bs.length + new.length) cap) w') : wpOp Try.prog ops Q i (fun a' w' => ∃ v, a' = a.put o.dst v ∧ KQ v w') a w := by
  obtain ⟨i0, hi, hz0, hz1, hz2⟩ := info_parts info_u8
  have hlen : bs.length + new.length ≤ 900000 := by simpa using hroom
  obtain ⟨ao, cap, w', hr, h1, h2, h3⟩ := run_append (P := Try.prog) w 58 o.type 5 i0 (.int .u8 0) 1 1 Try.underlying58 hi hz0 hz1 hz2 rfl (by decide) IsB_zero v _ _ hown.1 xv new.length (new.map bv) hrd.1.2 (isB_all hrd.1.1) (ints_oneCell .u8 new) (by omega) (by rw [maxLen_val]; omega)
  refine qc_run ho hw (ex_append hop hs hx hr) (h ao cap w' ⟨?_, (fun g hg => ?_), hroom⟩ (h2.mono (fun k _ hk => hown.2.1 k hk.symm)))
  · unfold OwnB
    rw [List.length_append, List.map_append]
    exact h1
  · rcases h3 with h3 | ⟨k, h3, hk⟩
    · exact .inl (hown.2.1 g (h3 ▸ hg))
    · rw [h3] at hg
      obtain rfl : k = g := by simpa using hg
      exact .inr ⟨hk, Own.lt h1 h3⟩
theorem ql.rd {bs : List Int} {v : Value} (hb : Bytes bs) (h : ql B 5 (bs.map bv).toArray Z t v w) (hl : bs.length ≤ 1000000) : ∃ R : Nat → Prop, (∀ j, R j → B ≤ j ∧ ¬ Z j ∧ j < w.heap.size) ∧ RdR R bs.length w v bs := by
  obtain ⟨g, rfl, hB, hZ, m, h4⟩ := h
  have e : (bs.map bv).toArray.size = bs.length := by simp
  refine ⟨fun k => k = g, fun j hj => by subst hj; exact ⟨hB, hZ, (Array.getElem?_eq_some_iff.1 h4).1⟩, ⟨hb, ?_⟩, fun _ k hk => by cases hk; rfl, Nat.le_refl _⟩
  rw [e]
  refine Rd.mk (Nat.le_refl _) (by rw [maxLen_val]; omega) (by simp) fun j y hy => ?_
  rw [Nat.zero_add]
  simp only [World.cell?, h4]
  simpa using hy
end
end Go.Proofs.Ytekbmpjdombedaa

/- Messages: their cells, what reads as one, their bytes. No walk here. -/
namespace Go.Proofs.Ytekbmpjdombedaa
open Go Go.RowKit Go.Gv

/-- a decided round -/
structure Dc where
 ep : Int
 rn : Int
 ba : Ba
 l : List Vt
abbrev Dc.cells (x : Dc) (v_ps v_os v_ts v_l : Value) : List Value := [.int .i64 x.ep, .int .i64 x.rn, .int .i64 x.ba.ep, .int .u64 (x.ba.tm : Nat), v_ps, v_os, v_ts, v_l]
def Dc.OK (x : Dc) : Prop := I64 x.ep ∧ I64 x.rn ∧ x.ba.OK
def Dc.rd (R : Nat → Prop) (w : World) (cs : List Value) (x : Dc) : Prop := ∃ v_ps v_os v_ts v_l, cs = x.cells v_ps v_os v_ts v_l ∧ x.OK ∧ RdS PmR R w v_ps x.ba.ps ∧ RdS OpR R w v_os x.ba.os ∧ RdS TbR R w v_ts x.ba.ts ∧ RdS VtR R w v_l x.l
def DcR : Rep Dc where
 sz := 8
 pos := by decide
 rd := Dc.rd
 len h := by
  obtain ⟨v_ps, v_os, v_ts, v_l, rfl, hok, h0, h1, h2, h3⟩ := h
  rfl
 one h := by
  obtain ⟨v_ps, v_os, v_ts, v_l, rfl, hok, h0, h1, h2, h3⟩ := h
  obtain ⟨_, _, e_ps⟩ := h0.shape
  obtain ⟨_, _, e_os⟩ := h1.shape
  obtain ⟨_, _, e_ts⟩ := h2.shape
  obtain ⟨_, _, e_l⟩ := h3.shape
  subst e_ps e_os e_ts e_l
  intro u hu
  simp only [Dc.cells, List.mem_append, List.mem_cons, List.not_mem_nil, or_false, List.mem_map] at hu
  rcases hu with rfl | rfl | rfl | rfl | rfl | rfl | rfl | rfl <;> rfl
 keep h hk := by
  obtain ⟨v_ps, v_os, v_ts, v_l, rfl, hok, h0, h1, h2, h3⟩ := h
  exact ⟨_, _, _, _, rfl, hok, h0.keep hk, h1.keep hk, h2.keep hk, h3.keep hk⟩
 wid h hs := by
  obtain ⟨v_ps, v_os, v_ts, v_l, rfl, hok, h0, h1, h2, h3⟩ := h
  exact ⟨_, _, _, _, rfl, hok, h0.widen hs, h1.widen hs, h2.widen hs, h3.widen hs⟩
 tight h := by
  obtain ⟨v_ps, v_os, v_ts, v_l, rfl, hok, h0, h1, h2, h3⟩ := h
  exact ⟨_, _, _, _, rfl, hok, h0.tight, h1.tight, h2.tight, h3.tight⟩

/-- a message -/
structure Mg where
 kd : Int
 fr : Int
 «to» : Int
 cm : Cm
 st : St
 ce : Ce
 ak : St
 ep : Int
 rn : Int
 tm : Nat
 pm : Pm
 pr : Pr
 vt : Vt
 ix : Int
 en : En
 op : Op
 dn : Dn
 rp : ByteArray
 dc : Dc
/-- its cells, part by part -/
def Mg.segs (x : Mg) (c5 c10 c11 c15 c18 : List Value) : List (List Value) := [[.int .i64 x.kd], [.int .i64 x.fr], [.int .i64 x.to], x.cm.cells, x.st.cells, c5, x.ak.cells, [.int .i64 x.ep], [.int .i64 x.rn], [.int .u64 (x.tm : Nat)], c10, c11, x.vt.cells, [.int .i64 x.ix], x.en.cells, c15, x.dn.cells, [.string x.rp], c18]
structure Mg.OK (x : Mg) : Prop where
 kd : I64 x.kd
 fr : I64 x.fr
 «to» : I64 x.to
 cm : x.cm.OK
 st : x.st.OK
 ak : x.ak.OK
 ep : I64 x.ep
 rn : I64 x.rn
 tm : x.tm < U64
 vt : x.vt.OK
 ix : I64 x.ix
 en : x.en.OK
 dn : x.dn.OK
abbrev mgN : List Nat := [1, 1, 1, 37, 38, 38, 38, 1, 1, 1, 6, 11, 38, 1, 35, 34, 4, 1, 8]
theorem Mg.lens {x : Mg} (h : x.OK) {c5 c10 c11 c15 c18 : List Value} (h5 : c5.length = 38) (h10 : c10.length = 6) (h11 : c11.length = 11) (h15 : c15.length = 34) (h18 : c18.length = 8) : (x.segs c5 c10 c11 c15 c18).map List.length = mgN := by
 simp only [Mg.segs, List.map_cons, List.map_nil, h5, h10, h11, h15, h18, Cm.len h.cm.2.1, St.len h.st, St.len h.ak, Vt.len h.vt, En.len h.en, List.length_cons, List.length_nil]
def Mg.rd (R : Nat → Prop) (w : World) (cs : List Value) (x : Mg) : Prop := ∃ c5 c10 c11 c15 c18, cs = (x.segs c5 c10 c11 c15 c18).flatten ∧ x.OK ∧ CeR.rd R w c5 x.ce ∧ PmR.rd R w c10 x.pm ∧ PrR.rd R w c11 x.pr ∧ OpR.rd R w c15 x.op ∧ DcR.rd R w c18 x.dc
theorem Mg.lns {x : Mg} (h : x.OK) {R R2 R3 R4 R5 : Nat → Prop} {w w2 w3 w4 w5 : World} {c5 c10 c11 c15 c18 : List Value} (h5 : CeR.rd R w c5 x.ce) (h10 : PmR.rd R2 w2 c10 x.pm) (h11 : PrR.rd R3 w3 c11 x.pr) (h15 : OpR.rd R4 w4 c15 x.op) (h18 : DcR.rd R5 w5 c18 x.dc) : (x.segs c5 c10 c11 c15 c18).map List.length = mgN :=
 Mg.lens h (CeR.len h5) (PmR.len h10) (PrR.len h11) (OpR.len h15) (DcR.len h18)
theorem flat_sum (l : List (List Value)) : l.flatten.length = (l.map List.length).sum := by rw [List.length_flatten]
def MgR : Rep Mg where
 sz := 295
 pos := by decide
 rd := Mg.rd
 len h := by
  obtain ⟨c5, c10, c11, c15, c18, rfl, hok, h5, h10, h11, h15, h18⟩ := h
  rw [flat_sum, Mg.lns hok h5 h10 h11 h15 h18]
  rfl
 one h := by
  obtain ⟨c5, c10, c11, c15, c18, rfl, hok, h5, h10, h11, h15, h18⟩ := h
  intro u hu
  obtain ⟨s, hs, hv⟩ := List.mem_flatten.1 hu
  simp only [Mg.segs, List.mem_cons, List.not_mem_nil, or_false] at hs
  rcases hs with rfl | rfl | rfl | rfl | rfl | rfl | rfl | rfl | rfl | rfl | rfl | rfl | rfl | rfl | rfl | rfl | rfl | rfl | rfl
  ·rw [List.mem_singleton] at hv; rw [hv]; rfl
  ·rw [List.mem_singleton] at hv; rw [hv]; rfl
  ·rw [List.mem_singleton] at hv; rw [hv]; rfl
  ·exact Cm_one _ _ hv
  ·exact St.one _ _ hv
  ·exact CeR.one h5 _ hv
  ·exact St.one _ _ hv
  ·rw [List.mem_singleton] at hv; rw [hv]; rfl
  ·rw [List.mem_singleton] at hv; rw [hv]; rfl
  ·rw [List.mem_singleton] at hv; rw [hv]; rfl
  ·exact PmR.one h10 _ hv
  ·exact PrR.one h11 _ hv
  ·exact Vt.one _ _ hv
  ·rw [List.mem_singleton] at hv; rw [hv]; rfl
  ·exact En.one _ _ hv
  ·exact OpR.one h15 _ hv
  ·exact Dn.one _ _ hv
  ·rw [List.mem_singleton] at hv; rw [hv]; rfl
  ·exact DcR.one h18 _ hv
 keep h hk := by
  obtain ⟨c5, c10, c11, c15, c18, rfl, hok, h5, h10, h11, h15, h18⟩ := h
  exact ⟨_, _, _, _, _, rfl, hok, CeR.keep h5 hk, PmR.keep h10 hk, PrR.keep h11 hk, OpR.keep h15 hk, DcR.keep h18 hk⟩
 wid h hs := by
  obtain ⟨c5, c10, c11, c15, c18, rfl, hok, h5, h10, h11, h15, h18⟩ := h
  exact ⟨_, _, _, _, _, rfl, hok, CeR.wid h5 hs, PmR.wid h10 hs, PrR.wid h11 hs, OpR.wid h15 hs, DcR.wid h18 hs⟩
 tight h := by
  obtain ⟨c5, c10, c11, c15, c18, rfl, hok, h5, h10, h11, h15, h18⟩ := h
  exact ⟨_, _, _, _, _, rfl, hok, CeR.tight h5, PmR.tight h10, PrR.tight h11, OpR.tight h15, DcR.tight h18⟩
theorem Cs.segA {w : World} {g : Nat} {T : TypeId} {segs : List (List Value)} (h : Cs w g segs.flatten.toArray T) {ns : List Nat} (hn : segs.map List.length = ns) (i : Nat) {seg : List Value} (hs : segs[i]? = some seg) {off o k : Nat} {M : List Value} (ho : (ns.take i).sum = o) (hk : off = o + k) (hM : (seg.drop k).take M.length = M) : ∀ j u, M[j]? = some u → w.cell? ⟨g, off + j, none⟩ = some u := by
 intro j u hu
 subst hk
 rw [Nat.add_assoc]
 refine Cs.seg h hn i hs ho (k + j) u ?_
 rw [← hM, List.getElem?_take] at hu
 split at hu
 ·rw [List.getElem?_drop] at hu; exact hu
 ·cases hu
theorem eq_tt {a b : Int} (h : a = b) : (a == b) = true := by simp [h]
theorem eq_ff {a b : Int} (h : ¬ a = b) : (a == b) = false := by simp [h]
end Go.Proofs.Ytekbmpjdombedaa

/- The message that is nothing. No walk here. -/
namespace Go.Proofs.Ytekbmpjdombedaa
open Go Go.RowKit Go.Gv

def zH32 : List Int := List.replicate 32 0
def zCm : Cm := ⟨0, 0, zH32, 0, 0, 0⟩
def zSt : St := ⟨0, 0, 0, zH32, 0, 0, 0⟩
def zPr : Pr := ⟨0, 0, 0, 0, zBa, 0, 0⟩
def zVt : Vt := ⟨0, 0, 0, 0, zH32, 0, 0⟩
def zEn : En := ⟨0, 0, zH32, 0⟩
def zOp : Op := ⟨0, [], zH32⟩
def zDn : Dn := ⟨0, 0, 0, 0⟩
def zDc : Dc := ⟨0, 0, zBa, []⟩
def zMg : Mg := ⟨0, 0, 0, zCm, zSt, zCe, zSt, 0, 0, 0, zPm, zPr, zVt, 0, zEn, zOp, zDn, ByteArray.empty, zDc⟩
theorem zCm_OK : zCm.OK := ⟨⟨I64_0, I64_0, I64_0, I64_0, I64_0⟩, HK_zero⟩
theorem zSt_OK : zSt.OK := ⟨I64_0, I64_0, I64_0, HK_zero, U64_0, I64_0, I64_0⟩
theorem zVt_OK : zVt.OK := ⟨I64_0, I64_0, I64_0, I64_0, HK_zero, I64_0, I64_0⟩
theorem zEn_OK : zEn.OK := ⟨I64_0, I64_0, HK_zero, U64_0⟩
theorem zDn_OK : zDn.OK := ⟨I64_0, I64_0, I64_0, I64_0⟩
theorem zMg_OK : zMg.OK := ⟨I64_0, I64_0, I64_0, zCm_OK, zSt_OK, zSt_OK, I64_0, I64_0, U64_0, zVt_OK, I64_0, zEn_OK, zDn_OK⟩
abbrev zS : Value := .slice none 0 0
def mg0 (k f t : Int) : Mg := { zMg with kd := k, fr := f, «to» := t }
/-- a message's cells with nothing in it but its kind, whom it is from and to -/
def mg0C (k f t : Int) : List Value := ((mg0 k f t).segs (zCe.cells zS) (zPm.cells zS) (zPr.cells zS zS zS) (zOp.cells zS) (zDc.cells zS zS zS zS)).flatten
theorem mg0_rd {k f t : Int} (hk : I64 k) (hf : I64 f) (ht : I64 t) (R : Nat → Prop) (w : World) : MgR.rd R w (mg0C k f t) (mg0 k f t) :=
 ⟨_, _, _, _, _, rfl, { zMg_OK with kd := hk, fr := hf, «to» := ht }, zCe_rd _ _, zPm_rd _ _, ⟨_, _, _, rfl, ⟨I64_0, I64_0, I64_0, I64_0, zBa_OK, I64_0, I64_0⟩, RdS.nil _ _ _, RdS.nil _ _ _, RdS.nil _ _ _⟩,
  ⟨_, rfl, ⟨I64_0, HK_zero⟩, ⟨⟨(fun b hb => by cases hb), Rd.nil _ _⟩, (fun h => absurd h (show ¬ 0 < ([] : List Int).length by decide)), Nat.le_refl _⟩⟩, ⟨_, _, _, _, rfl, ⟨I64_0, I64_0, zBa_OK⟩, RdS.nil _ _ _, RdS.nil _ _ _, RdS.nil _ _ _, RdS.nil _ _ _⟩⟩
end Go.Proofs.Ytekbmpjdombedaa

/- Messages on their way as an object; what a slice of one's own is when one thing was taken out of it. No walk here. -/
namespace Go.Gv
open Go Go.RowKit

section
variable {α : Type} {A : Rep α} {e : TypeId} {R E : Nat → Prop} {w w' : World} {v : Value} {l : List α}
/-- what a slice of one's own is, opened -/
theorem OwS.opened (h : OwS A e R E w v l) (h0 : 0 < l.length) : ∃ (g cap : Nat) (cur : Array Value) (css : List (List Value)), v = .slice (some ⟨g, 0, none⟩) l.length cap ∧ R g ∧ Cs w g cur e ∧ l.length ≤ cap ∧ cap ≤ maxLen ∧ css.length = l.length ∧ (∀ c ∈ css, c.length = A.sz) ∧ cap * A.sz ≤ cur.size ∧
    cur.toList.take (l.length * A.sz) = css.flatten ∧ (∀ u ∈ cur.toList, u.oneCell' = true) ∧ ∀ (i : Nat) cs a, css[i]? = some cs → l[i]? = some a → A.rd (fun k => E k ∧ k ≠ g) w cs a := by
  obtain ⟨css, h1, h2, ⟨hl, hE, h3⟩, h4⟩ := h
  have hcl := css_len h1 h2 (fun cs a h => A.len h)
  rcases h3 with ⟨he, hz⟩ | ⟨g, cap, cur, rfl, hc, k1, k2, k3, k4, k5⟩
  · omega
  · exact ⟨g, cap, cur, css, rfl, h4 g rfl, hc, k1, k2, h1, hcl, k3, k4, k5, fun i cs a hi ha => A.wid (h2 i cs a hi ha) fun k hk => ⟨hk.1, fun e => hk.2 (by rw [e]; rfl)⟩⟩
theorem OwS.cutOut {g cap k : Nat} {cur2 : Array Value} {css : List (List Value)} (hR : R g) (h1 : css.length = l.length) (hcl : ∀ c ∈ css, c.length = A.sz) (hrd : ∀ (i : Nat) cs a, css[i]? = some cs → l[i]? = some a → A.rd (fun k => E k ∧ k ≠ g) w cs a)
    (hk : k < l.length) (hcap : l.length ≤ cap) (hmx : cap ≤ maxLen) (hc2 : Cs w' g cur2 e) (hm : Mod (fun b => b = g) w w') (hsz : cap * A.sz ≤ cur2.size) (hone : ∀ u ∈ cur2.toList, u.oneCell' = true)
    (ht : cur2.toList.take ((l.length - 1) * A.sz) = (css.take k).flatten ++ (css.drop (k + 1)).flatten) : OwS A e R E w' (.slice (some ⟨g, 0, none⟩) (l.length - 1) cap) (l.eraseIdx k) := by
  have hln : (l.eraseIdx k).length = l.length - 1 := by rw [List.length_eraseIdx, if_pos hk]
  have hcn : (css.eraseIdx k).length = l.length - 1 := by rw [List.length_eraseIdx, if_pos (by omega), h1]
  have hfl : (css.eraseIdx k).flatten = (css.take k).flatten ++ (css.drop (k + 1)).flatten := by rw [List.eraseIdx_eq_take_drop_succ, List.flatten_append]
  have hcl2 : ∀ c ∈ css.eraseIdx k, c.length = A.sz := fun c hc => hcl c (List.mem_of_mem_eraseIdx hc)
  refine ⟨css.eraseIdx k, by omega, fun i cs a hi ha => ?_, ⟨?_, ?_, .inr ⟨g, cap, cur2, by rw [hln], hc2, by omega, hmx, hsz, ?_, hone⟩⟩, fun b hb => by cases hb; exact hR⟩
  · rw [List.getElem?_eraseIdx] at hi ha
    refine Rep.mod (S := fun b => b = g) (A.wid (R' := fun k_1 => E k_1 ∧ (Value.slice (some ⟨g, 0, none⟩) (l.length - 1) cap).ownBlock ≠ some k_1) ?_ (fun b hb => hb)) hm (fun b hb hS => hb.2 (by rw [hS]; rfl))
    have := fun j h1 h2 => A.wid (hrd j cs a h1 h2) (R' := fun k_1 => E k_1 ∧ (Value.slice (some ⟨g, 0, none⟩) (l.length - 1) cap).ownBlock ≠ some k_1) (fun b hb => ⟨hb.1, fun e => hb.2 (by cases e; rfl)⟩)
    split at hi
    · rename_i hik; rw [if_pos hik] at ha; exact this _ hi ha
    · rename_i hik; rw [if_neg hik] at ha; exact this _ hi ha
  · rw [flat_len hcl2, hln, hcn]
  · intro u hu
    rw [hfl, ← ht] at hu
    exact hone u (List.mem_of_mem_take hu)
  · rw [hln, ht, hfl]
theorem OwS.lt (h : OwS A e R E w v l) {g : Nat} (hg : v.ownBlock = some g) : g < w.heap.size := by
  obtain ⟨css, h1, h3, h4, h5⟩ := h
  exact h4.lt hg
end

theorem OwS.own {α : Type} {A : Rep α} {e : TypeId} {R E : Nat → Prop} {w : World} {v : Value} {l : List α} (h : OwS A e R E w v l) : OwS A e (fun k => v.ownBlock = some k) E w v l := by
  obtain ⟨css, h1, h2, h3, h4⟩ := h
  exact ⟨css, h1, h2, h3, fun g hg => hg⟩
theorem OwS.blk {α : Type} {A : Rep α} {e : TypeId} {R E : Nat → Prop} {w : World} {v : Value} {l : List α} (h : OwS A e R E w v l) : ∀ g, v.ownBlock = some g → R g := by
  obtain ⟨css, h1, h2, h3, h4⟩ := h
  exact h4

theorem OwS.at3 {α : Type} {A : Rep α} {e : TypeId} {R E : Nat → Prop} {w : World} {ao : Option Addr} {n cap i : Nat} {l : List α} (h : OwS A e R E w (.slice ao n cap) l) (hi : i < l.length) :
    ∃ g cs, ao = some ⟨g, 0, none⟩ ∧ R g ∧ A.rd (fun b => E b ∧ b ≠ g) w cs l[i] ∧ ∀ j u, cs[j]? = some u → w.cell? ⟨g, 0 + i * A.sz + j, none⟩ = some u := by
  obtain ⟨g, cap', cur, css, he, hg, hc, h1, h2, h3, h4, h5, h6, h7, h8⟩ := h.opened (by omega)
  cases he
  have hi2 : css[i]? = some css[i] := List.getElem?_eq_getElem (by omega)
  refine ⟨g, css[i], rfl, hg, h8 i _ _ hi2 (List.getElem?_eq_getElem hi), fun j u hu => ?_⟩
  have h9 := flat_get h4 i _ hi2 j u hu
  rw [← h6, List.getElem?_take] at h9
  split at h9
  · rw [Nat.zero_add, hc.cell]; simpa using h9
  · cases h9

theorem run_clearA {P : Program} (w : World) (t ty e : TypeId) (z : Value) (s : Nat) (ht : P.underlying t = some (.slice e)) (hz : (P.info? e).bind (·.zero) = some z) (hzs : z.cells.size = s) (hz1 : ∀ u ∈ z.cells.toList, u.oneCell' = true)
    (g o n c : Nat) (cur : Array Value) (hg : Cs w g cur e) (hfit : o + n * s ≤ cur.size) (hn : 0 < n) :
    (Builtin.clear_ #[t] ty #[.slice (some ⟨g, o, none⟩) n c]).run P w = .ok (.tuple #[]) (w.setRow g (cur.toList.take o ++ (Builtin.zeroCells z.cells n).toList ++ cur.toList.drop (o + n * s)).toArray) := by
  obtain ⟨i, hi, hz⟩ := Option.bind_eq_some_iff.1 hz
  have hl : (Builtin.zeroCells z.cells n).toList.length = n * s := by rw [Array.length_toList, size_zeroCells, hzs]
  have h1 : ∀ u ∈ (Builtin.zeroCells z.cells n).toList, u.oneCell' = true := by
    intro u hu
    have h' : u ∈ Builtin.zeroCells z.cells n := Array.mem_toList_iff.1 hu
    simp only [Builtin.zeroCells] at h'
    simp at h'
    obtain ⟨q2, hq, h'⟩ := h'
    have hs : 0 < z.cells.size := by
      rcases Nat.eq_zero_or_pos z.cells.size with h0 | h0
      · rw [h0, Nat.mul_zero] at hq; omega
      · exact h0
    have hq2 : q2 % z.cells.size < z.cells.size := Nat.mod_lt _ hs
    rw [getElem!_pos z.cells (q2 % z.cells.size) hq2] at h'
    exact hz1 u (h' ▸ Array.mem_toList_iff.2 (Array.getElem_mem hq2))
  have hst := run_storeCells_at P g o e (Builtin.zeroCells z.cells n).toList 0 cur w hg (by rw [hl]; simpa using hfit) h1
  simp only [Nat.add_zero, hl] at hst
  obtain ⟨m, rfl⟩ : ∃ m, n = m + 1 := ⟨n - 1, by omega⟩
  simp [Builtin.clear_, run_underlying ht, zeroValue, typeInfo, hi, hz, hst]
/-- a piece of a slice: from lo to hi, up to m -/
def slV (s : Nat) (ao : Option Addr) (lo hi m : Nat) : Value := .slice (if m = lo then ao else ao.map fun x => x.add (lo * s)) (hi - lo) (m - lo)
theorem ex_slice3 {P : Program} {o : Oper} {a : Act} {w : World} {T e : TypeId} {x y z u : Operand} {ao : Option Addr} {n cap lo hi m s : Nat} {k k' k'' : IntKind} (ho : o.op = .slice T x (some y) (some z) (some u)) (hu : P.underlying T = some (.slice e)) (hs : (P.info? e).map (·.size) = some s)
    (hx : a.eval x = .slice ao n cap) (hy : a.eval y = .int k (lo : Int)) (hz : a.eval z = .int k' (hi : Int)) (hm : a.eval u = .int k'' (m : Int)) (h1 : lo ≤ hi) (h2 : hi ≤ m) (h3 : m ≤ cap) : (execOp a.eval o).run P w = .ok (.value (slV s ao lo hi m)) w := by
  have hsz : (sizeOf e).run P w = .ok s w := by
    cases hq : P.info? e with
    | none => rw [hq] at hs; cases hs
    | some i => rw [hq] at hs; simp [sizeOf, typeInfo, hq]; exact Option.some.inj hs
  unfold execOp slV
  by_cases h : m = lo
  · subst h
    simp [ho, hx, hy, hz, hm, Instr.sliceAt, Instr.slice, Instr.sliceBounds, Instr.sliceBound, asIntOf, run_underlying hu, hsz, h1, h2, h3]
  · have h5 : ¬ m - lo = 0 := by omega
    simp [ho, hx, hy, hz, hm, Instr.sliceAt, Instr.slice, Instr.sliceBounds, Instr.sliceBound, asIntOf, run_underlying hu, hsz, h1, h2, h3, h, h5]
theorem ex_slice2 {P : Program} {o : Oper} {a : Act} {w : World} {T e : TypeId} {x y z : Operand} {ao : Option Addr} {n cap lo hi s : Nat} {k k' : IntKind} (ho : o.op = .slice T x (some y) (some z) none) (hu : P.underlying T = some (.slice e)) (hs : (P.info? e).map (·.size) = some s)
    (hx : a.eval x = .slice ao n cap) (hy : a.eval y = .int k (lo : Int)) (hz : a.eval z = .int k' (hi : Int)) (h1 : lo ≤ hi) (h2 : hi ≤ cap) : (execOp a.eval o).run P w = .ok (.value (slV s ao lo hi cap)) w := by
  have hsz : (sizeOf e).run P w = .ok s w := by
    cases hq : P.info? e with
    | none => rw [hq] at hs; cases hs
    | some i => rw [hq] at hs; simp [sizeOf, typeInfo, hq]; exact Option.some.inj hs
  unfold execOp slV
  by_cases h : cap = lo
  · subst h
    simp [ho, hx, hy, hz, Instr.sliceAt, Instr.slice, Instr.sliceBounds, Instr.sliceBound, asIntOf, run_underlying hu, hsz, h1, h2]
  · have h5 : ¬ cap - lo = 0 := by omega
    simp [ho, hx, hy, hz, Instr.sliceAt, Instr.slice, Instr.sliceBounds, Instr.sliceBound, asIntOf, run_underlying hu, hsz, h1, h2, h, h5]
theorem ex_slice1 {P : Program} {o : Oper} {a : Act} {w : World} {T e : TypeId} {x y : Operand} {ao : Option Addr} {n cap lo s : Nat} {k : IntKind} (ho : o.op = .slice T x (some y) none none) (hu : P.underlying T = some (.slice e)) (hs : (P.info? e).map (·.size) = some s)
    (hx : a.eval x = .slice ao n cap) (hy : a.eval y = .int k (lo : Int)) (h1 : lo ≤ n) (h2 : n ≤ cap) : (execOp a.eval o).run P w = .ok (.value (slV s ao lo n cap)) w := by
  have hsz : (sizeOf e).run P w = .ok s w := by
    cases hq : P.info? e with
    | none => rw [hq] at hs; cases hs
    | some i => rw [hq] at hs; simp [sizeOf, typeInfo, hq]; exact Option.some.inj hs
  have hlc : lo ≤ cap := Nat.le_trans h1 h2
  unfold execOp slV
  by_cases h : cap = lo
  · subst h
    simp [ho, hx, hy, Instr.sliceAt, Instr.slice, Instr.sliceBounds, Instr.sliceBound, asIntOf, run_underlying hu, hsz, h1, h2]
  · have h5 : ¬ cap - lo = 0 := by omega
    simp [ho, hx, hy, Instr.sliceAt, Instr.slice, Instr.sliceBounds, Instr.sliceBound, asIntOf, run_underlying hu, hsz, h1, h2, hlc, h, h5]
section
variable {P : Program} {ops : Array Oper} {Q : Exit → Act → World → Prop} {i : Nat} {o : Oper} {a : Act} {w : World} {KQ : Value → World → Prop} {e t : TypeId} {z : Value} {x y : Operand} {g k n cap sz bytes : Nat} {cur : Array Value} {css : List (List Value)}
/-- one of the chain appends what is behind the k-th to what is ahead of it -/
theorem qc_appDel (ho : ops[i]? = some o) (hw : Region.wanted o (yielded ops a.tmps) = true) (hop : o.op = .call { callee := .builtin .append, args := #[x, y], argTypes := #[t, t] }) (ht : P.underlying t = some (.slice e)) (hinfo : (P.info? e).map (fun i => (i.zero, i.size, i.bytes)) = some (some z, sz, bytes))
    (hx : a.eval x = .slice (some ⟨g, 0, none⟩) k cap) (hy : a.eval y = slV sz (some ⟨g, 0, none⟩) (k + 1) n cap) (hc : Cs w g cur e) (hk : k < n) (hn : n ≤ cap) (hl : css.length = n) (hcl : ∀ c ∈ css, c.length = sz) (hsz : cap * sz ≤ cur.size)
    (htk : cur.toList.take (n * sz) = css.flatten) (h1 : ∀ u ∈ cur.toList, u.oneCell' = true)
    {n1 : Nat} (hn1 : n - 1 = n1)
    (h : ∀ w' (cur1 : Array Value), Cs w' g cur1 e → cur1.size = cur.size → cur1.toList.take (n1 * sz) = (css.take k).flatten ++ (css.drop (k + 1)).flatten → (∀ u ∈ cur1.toList, u.oneCell' = true) → Mod (fun b => b = g) w w' → KQ (.slice (some ⟨g, 0, none⟩) n1 cap) w') :
    wpOp P ops Q i (fun a' w' => ∃ v, a' = a.put o.dst v ∧ KQ v w') a w := by
  subst hn1
  obtain ⟨i0, hi, hz0, hz1, hz2⟩ := info_parts hinfo
  have hfl : css.flatten.length = n * sz := by rw [flat_len hcl, hl]
  have hks : k * sz ≤ n * sz := Nat.mul_le_mul_right _ (by omega)
  have hns : n * sz ≤ cap * sz := Nat.mul_le_mul_right _ hn
  have hk1 : (k + 1) * sz ≤ n * sz := Nat.mul_le_mul_right _ hk
  have e1 : (css.take k).flatten = cur.toList.take (k * sz) := by
    have h6 : (css.take k).flatten.length = k * sz := by rw [flat_len (fun c hc => hcl c (List.mem_of_mem_take hc)), List.length_take, Nat.min_eq_left (by omega)]
    have h7 : css.flatten = (css.take k).flatten ++ (css.drop k).flatten := by rw [← List.flatten_append, List.take_append_drop]
    have h8 : css.flatten.take (k * sz) = (css.take k).flatten := by rw [h7]; exact List.take_left' h6
    rw [← h8, ← htk, List.take_take, Nat.min_eq_left hks]
  have e2 : (css.drop (k + 1)).flatten = css.flatten.drop ((k + 1) * sz) := by
    have h6 : (css.take (k + 1)).flatten.length = (k + 1) * sz := by rw [flat_len (fun c hc => hcl c (List.mem_of_mem_take hc)), List.length_take, Nat.min_eq_left (by omega)]
    have h7 : css.flatten = (css.take (k + 1)).flatten ++ (css.drop (k + 1)).flatten := by rw [← List.flatten_append, List.take_append_drop]
    rw [h7, ← h6, List.drop_left' rfl]
  have hnl : (css.drop (k + 1)).flatten.length = (n - (k + 1)) * sz := by rw [flat_len (fun c hc => hcl c (List.mem_of_mem_drop hc)), List.length_drop, hl]
  have hsub : k * sz + (n - (k + 1)) * sz = (n - 1) * sz := by rw [← Nat.add_mul]; congr 1; omega
  have hn1 : (n - 1) * sz ≤ n * sz := Nat.mul_le_mul_right _ (by omega)
  have hone : ∀ u ∈ (css.drop (k + 1)).flatten, u.oneCell' = true := fun u hu => by
    rw [e2, ← htk] at hu
    exact h1 u (List.mem_of_mem_take (List.mem_of_mem_drop hu))
  have hcell : ∀ j u, (css.drop (k + 1)).flatten[j]? = some u → w.cell? ⟨g, (k + 1) * sz + j, none⟩ = some u := by
    intro j u hu
    rw [e2, List.getElem?_drop, ← htk, List.getElem?_take] at hu
    split at hu
    · rw [hc.cell]; simpa using hu
    · cases hu
  obtain ⟨ad, had, hnews⟩ : ∃ ad, slV sz (some ⟨g, 0, none⟩) (k + 1) n cap = .slice (some ad) (n - (k + 1)) (cap - (k + 1)) ∧ ∀ j u, (css.drop (k + 1)).flatten[j]? = some u → w.cell? (ad.add j) = some u := by
    by_cases hq : cap = k + 1
    · refine ⟨⟨g, 0, none⟩, by unfold slV; rw [if_pos hq], fun j u hu => ?_⟩
      have h0 : (css.drop (k + 1)).flatten = [] := List.eq_nil_of_length_eq_zero (by rw [hnl, show n - (k + 1) = 0 by omega, Nat.zero_mul])
      rw [h0] at hu; cases hu
    · refine ⟨⟨g, 0 + (k + 1) * sz, none⟩, by unfold slV; rw [if_neg hq]; simp only [Option.map_some, add_mk], fun j u hu => ?_⟩
      rw [add_mk, Nat.zero_add]
      exact hcell j u hu
  subst hz1
  have hr := run_append_room (P := P) w t o.type e i0 ht hi g k cap cur hc ad (n - (k + 1)) (cap - (k + 1)) _ hnl hnews hone (by omega) (by rw [hnl, hsub]; omega)
  refine qc_run ho hw (ex_append hop hx (hy.trans had) hr) ?_
  have hl1 : (cur.toList.take (k * i0.size) ++ (css.drop (k + 1)).flatten).length = (n - 1) * i0.size := by rw [List.length_append, hnl, List.length_take, Array.length_toList, Nat.min_eq_left (by omega), hsub]
  rw [show k + (n - (k + 1)) = n - 1 by omega]
  refine h _ _ (setRow_heap w g cur _ e _ hc) ?_ ?_ ?_ ⟨rfl, rfl, rfl, by simp, fun b _ hb => setRow_other w g b _ hb⟩
  · simp only [List.size_toArray, List.length_append, List.length_drop, Array.length_toList] at hl1 ⊢
    rw [hl1, hnl, hsub]; omega
  · rw [e1]
    exact List.take_left' hl1
  · intro u hu
    simp only [List.mem_append] at hu
    rcases hu with (hu | hu) | hu
    · exact h1 u (List.mem_of_mem_take hu)
    · exact hone u hu
    · exact h1 u (List.mem_of_mem_drop hu)
/-- one of the chain clears what is behind -/
theorem qc_clear1 (ho : ops[i]? = some o) (hw : Region.wanted o (yielded ops a.tmps) = true) (hop : o.op = .call { callee := .builtin .clear, args := #[x], argTypes := #[t] }) (ht : P.underlying t = some (.slice e)) (hinfo : (P.info? e).map (fun i => (i.zero, i.size)) = some (some z, sz)) (hzs : z.cells.size = sz) (hzE : ∀ u ∈ z.cells.toList, u.oneCell' = true)
    {n1 : Nat} (hn1 : n - 1 = n1) (hx : a.eval x = slV sz (some ⟨g, 0, none⟩) n1 n cap) (hc : Cs w g cur e) (hn0 : 0 < n) (hn : n ≤ cap) (hsz : cap * sz ≤ cur.size) (h1 : ∀ u ∈ cur.toList, u.oneCell' = true)
    (h : ∀ w' (cur1 : Array Value), Cs w' g cur1 e → cur1.size = cur.size → cur1.toList.take (n1 * sz) = cur.toList.take (n1 * sz) → (∀ u ∈ cur1.toList, u.oneCell' = true) → Mod (fun b => b = g) w w' → KQ (.tuple #[]) w') :
    wpOp P ops Q i (fun a' w' => ∃ v, a' = a.put o.dst v ∧ KQ v w') a w := by
  subst hn1
  obtain ⟨i0, hi, hq⟩ := Option.map_eq_some_iff.1 hinfo
  have hz0 := (Prod.mk.inj hq).1
  have hz1 := (Prod.mk.inj hq).2
  have hns : n * sz ≤ cap * sz := Nat.mul_le_mul_right _ hn
  have hn1 : (n - 1) * sz + 1 * sz = n * sz := by rw [← Nat.add_mul]; congr 1; omega
  have hv : slV sz (some ⟨g, 0, none⟩) (n - 1) n cap = .slice (some ⟨g, (n - 1) * sz, none⟩) 1 (cap - (n - 1)) := by
    unfold slV; rw [if_neg (by omega), show n - (n - 1) = 1 by omega]; simp only [Option.map_some, add_mk, Nat.zero_add]
  have hr := run_clearA (P := P) w t o.type e z sz ht (by rw [hi]; exact hz0) hzs hzE g ((n - 1) * sz) 1 (cap - (n - 1)) cur hc (by omega) (by decide)
  have hzl : (Builtin.zeroCells z.cells 1).toList.length = 1 * sz := by rw [Array.length_toList, size_zeroCells, hzs]
  have he : (execOp a.eval o).run P w = .ok (.value (.tuple #[])) (w.setRow g (cur.toList.take ((n - 1) * sz) ++ (Builtin.zeroCells z.cells 1).toList ++ cur.toList.drop ((n - 1) * sz + 1 * sz)).toArray) := by
    unfold execOp
    simp only [hop, resolve, invoke, builtin, Sem.run_bind, Sem.run_pure, Result.andThen_ok, List.map_toArray, List.map_cons, List.map_nil, hx, hv, hr]
  refine qc_run ho hw he ?_
  have hl1 : (cur.toList.take ((n - 1) * sz)).length = (n - 1) * sz := by rw [List.length_take, Array.length_toList, Nat.min_eq_left (by omega)]
  refine h _ _ (setRow_heap w g cur _ e _ hc) ?_ ?_ ?_ ⟨rfl, rfl, rfl, by simp, fun b _ hb => setRow_other w g b _ hb⟩
  · simp only [List.size_toArray, List.length_append, List.length_drop, hl1, hzl, Array.length_toList]; omega
  · rw [List.append_assoc]
    exact List.take_left' hl1
  · intro u hu
    simp only [List.mem_append] at hu
    rcases hu with (hu | hu) | hu
    · exact h1 u (List.mem_of_mem_take hu)
    · have h' : u ∈ Builtin.zeroCells z.cells 1 := Array.mem_toList_iff.1 hu
      simp only [Builtin.zeroCells] at h'
      simp at h'
      obtain ⟨q2, hq, h'⟩ := h'
      rw [getElem!_pos z.cells (q2 % z.cells.size) (Nat.mod_lt _ (by omega))] at h'
      exact hzE u (h' ▸ Array.mem_toList_iff.2 (Array.getElem_mem _))
    · exact h1 u (List.mem_of_mem_drop hu)
end
end Go.Gv
namespace Go.Proofs.Ytekbmpjdombedaa
open Go Go.RowKit Go.Gv
theorem run_eql_nil {P : Program} {tp te : TypeId} (a : Addr) (hp : P.underlying tp = some (.pointer te)) (hte : (P.info? te).isSome = true) (w : World) :
    (binOp .eql tp (.pointer (some a)) (.pointer none)).run P w = .ok (.bool false) w := by
  obtain ⟨j, hj⟩ := Option.isSome_iff_exists.1 hte
  have h : ∀ d : Nat, (Op.equalIn (d + 1) tp (.pointer (some a)) (.pointer none)).run P w = .ok false w := fun d => by
    simp [Op.equalIn, run_underlying hp, sizeOf, typeInfo, hj]
  simp only [binOp]
  simp [Op.equal, Op.maxDepth, h 9999]
theorem run_neq_nil {P : Program} {tp te : TypeId} (a : Addr) (hp : P.underlying tp = some (.pointer te)) (hte : (P.info? te).isSome = true) (w : World) :
    (binOp .neq tp (.pointer (some a)) (.pointer none)).run P w = .ok (.bool true) w := by
  obtain ⟨j, hj⟩ := Option.isSome_iff_exists.1 hte
  have h : ∀ d : Nat, (Op.equalIn (d + 1) tp (.pointer (some a)) (.pointer none)).run P w = .ok false w := fun d => by
    simp [Op.equalIn, run_underlying hp, sizeOf, typeInfo, hj]
  simp only [binOp]
  simp [Op.equal, Op.maxDepth, h 9999]
theorem guard_ptr {P : Program} (op : BinOp) (T : TypeId) (x y : Operand) (a b : Option Addr) (w : World) : (eqGuard op T x y (.pointer a) (.pointer b)).run P w = .ok () w := by
  unfold eqGuard
  cases op <;> simp
theorem i64_eq {a b : Int} (h : a = b) (h1 : -9223372036854775808 ≤ b) (h2 : b ≤ 9223372036854775807) : IntKind.i64.wrap a = b := by
  subst h
  exact IntWalk.i64_in _ ⟨h1, h2⟩
theorem results_cellA_tmp {P : Program} {fn : Func} {p u : Tmp} {ty : TypeId} (h : fn.results = #[.cell p ty, .tmp u]) (tmps : Array Value) (w : World) (g : Nat) (cs : List Value) {d : TypeDesc}
    (hp : tmps.getD p undef = .pointer (some ⟨g, 0, none⟩)) (hc : ∀ j u, cs[j]? = some u → w.cell? ⟨g, j, none⟩ = some u) (hu : P.underlying ty = some d) (hd : aggDesc d = true) (hi : (P.info? ty).map (·.size) = some cs.length) :
    (results fn tmps).run P w = .ok (.tuple #[.agg cs.toArray, tmps.getD u undef]) w := by
  have hp' : tmps[p]?.getD undef = .pointer (some ⟨g, 0, none⟩) := by simpa using hp
  simp [results, h, hp', asAddr, run_loadA w ty d hu hd ⟨g, 0, none⟩ cs hi (fun j u hu => by rw [add_mk, Nat.zero_add]; exact hc j u hu)]
/-- messages on their way: at most mo, those that are, how many were sent, lost; v: the slice; E: where what they hold lies -/
structure NtV (E : Nat → Prop) (w : World) (x : Nat) (v : Value) (mo : Int) (l : List Mg) (sn lo : Int) : Prop where
  cs : Cs w x #[.int .i64 mo, v, .int .i64 sn, .int .i64 lo] 87
  bd : ∀ k, E k → k < w.heap.size
  ex : ¬ E x
  vx : v.ownBlock ≠ some x
  ow : OwS MgR 67 (fun k => v.ownBlock = some k) E w v l
/-- the same, in blocks of R -/
def NtR (R : Nat → Prop) (w : World) (x : Nat) (mo : Int) (l : List Mg) (sn lo : Int) : Prop :=
  ∃ E v, NtV E w x v mo l sn lo ∧ R x ∧ (∀ k, v.ownBlock = some k → R k) ∧ ∀ k, E k → R k
section
variable {R R' S E : Nat → Prop} {w w' : World} {x : Nat} {v : Value} {mo sn lo : Int} {l : List Mg}
theorem NtV.mod (h : NtV E w x v mo l sn lo) (hm : Mod S w w') (hx : ¬ S x) (hv : ∀ k, v.ownBlock = some k → ¬ S k) (hE : ∀ k, E k → ¬ S k) : NtV E w' x v mo l sn lo :=
  ⟨h.cs.mod hm hx, fun k hk => Nat.lt_of_lt_of_le (h.bd k hk) hm.size, h.ex, h.vx, h.ow.mod hm (fun k hk => hv k hk) (fun k hk => hE k hk)⟩
theorem NtR.mod (h : NtR R w x mo l sn lo) (hm : Mod S w w') (hs : ∀ k, R k → S k → False) : NtR R w' x mo l sn lo := by
  obtain ⟨E, v, h1, h2, h3, h4⟩ := h
  exact ⟨E, v, h1.mod hm (hs x h2) (fun k hk => hs k (h3 k hk)) (fun k hk => hs k (h4 k hk)), h2, h3, h4⟩
theorem NtR.widen (h : NtR R w x mo l sn lo) (hs : ∀ k, R k → R' k) : NtR R' w x mo l sn lo := by
  obtain ⟨E, v, h1, h2, h3, h4⟩ := h
  exact ⟨E, v, h1, hs x h2, fun k hk => hs k (h3 k hk), fun k hk => hs k (h4 k hk)⟩
end
end Go.Proofs.Ytekbmpjdombedaa

/- Copies and cuts of lists of things. -/
namespace Go.Proofs.Ytekbmpjdombedaa
open Go Go.RowKit Go.Gv

theorem info_St : (Try.prog.info? 38).map (fun i => (i.zero, i.size, i.bytes)) = some (some (.agg #[.int .i64 0, .int .i64 0, .int .i64 0, .int .u8 0, .int .u8 0, .int .u8 0, .int .u8 0, .int .u8 0, .int .u8 0, .int .u8 0, .int .u8 0, .int .u8 0, .int .u8 0, .int .u8 0, .int .u8 0, .int .u8 0, .int .u8 0, .int .u8 0, .int .u8 0, .int .u8 0, .int .u8 0, .int .u8 0, .int .u8 0, .int .u8 0, .int .u8 0, .int .u8 0, .int .u8 0, .int .u8 0, .int .u8 0, .int .u8 0, .int .u8 0, .int .u8 0, .int .u8 0, .int .u8 0, .int .u8 0, .int .u64 0, .int .i64 0, .int .i64 0]), 38, 80) := by kernel_rfl
theorem info_Dn : (Try.prog.info? 62).map (fun i => (i.zero, i.size, i.bytes)) = some (some (.agg #[.int .i64 0, .int .i64 0, .int .i64 0, .int .i64 0]), 4, 32) := by kernel_rfl
theorem info_Ce : (Try.prog.info? 41).map (fun i => (i.zero, i.size, i.bytes)) = some (some (.agg #[.int .i64 0, .int .i64 0, .int .u8 0, .int .u8 0, .int .u8 0, .int .u8 0, .int .u8 0, .int .u8 0, .int .u8 0, .int .u8 0, .int .u8 0, .int .u8 0, .int .u8 0, .int .u8 0, .int .u8 0, .int .u8 0, .int .u8 0, .int .u8 0, .int .u8 0, .int .u8 0, .int .u8 0, .int .u8 0, .int .u8 0, .int .u8 0, .int .u8 0, .int .u8 0, .int .u8 0, .int .u8 0, .int .u8 0, .int .u8 0, .int .u8 0, .int .u8 0, .int .u8 0, .int .u8 0, .int .i64 0, .int .i64 0, .int .i64 0, .slice none 0 0]), 38, 96) := by kernel_rfl
theorem info_Pm : (Try.prog.info? 46).map (fun i => (i.zero, i.size, i.bytes)) = some (some (.agg #[.int .i64 0, .int .i64 0, .int .u64 0, .slice none 0 0, .int .i64 0, .int .i64 0]), 6, 64) := by kernel_rfl
theorem info_Op : (Try.prog.info? 60).map (fun i => (i.zero, i.size, i.bytes)) = some (some (.agg #[.int .i64 0, .slice none 0 0, .int .u8 0, .int .u8 0, .int .u8 0, .int .u8 0, .int .u8 0, .int .u8 0, .int .u8 0, .int .u8 0, .int .u8 0, .int .u8 0, .int .u8 0, .int .u8 0, .int .u8 0, .int .u8 0, .int .u8 0, .int .u8 0, .int .u8 0, .int .u8 0, .int .u8 0, .int .u8 0, .int .u8 0, .int .u8 0, .int .u8 0, .int .u8 0, .int .u8 0, .int .u8 0, .int .u8 0, .int .u8 0, .int .u8 0, .int .u8 0, .int .u8 0, .int .u8 0]), 34, 64) := by kernel_rfl
theorem info_Tb : (Try.prog.info? 121).map (fun i => (i.zero, i.size, i.bytes)) = some (some (.agg #[.int .i64 0, .slice none 0 0]), 2, 32) := by kernel_rfl

/-- a function that copies a list of things; one that cuts it -/
def CopiesS {α : Type} (A : Rep α) (e : TypeId) (F : FuncId) : Prop := ∀ (R2 : Nat → Prop) (v : Value) (l : List α) (w : World), RdS A R2 w v l → (∀ k, R2 k → k < w.heap.size) → l.length ≤ 1000000 →
 Calls Try.prog F #[v] w fun e' w' => ∃ v', e' = .returned v' ∧ OwS A e (New w w') R2 w' v' l ∧ Mod (fun _ => False) w w'
def CutsS {α : Type} (A : Rep α) (e : TypeId) (F : FuncId) : Prop := ∀ (R2 : Nat → Prop) (v : Value) (l : List α) (n : Nat) (w : World), RdS A R2 w v l → (∀ k, R2 k → k < w.heap.size) → n ≤ 1000000 →
 Calls Try.prog F #[v, .int .i64 (n : Int)] w fun e' w' => ∃ v', e' = .returned v' ∧ OwS A e (New w w') R2 w' v' (l.take n) ∧ Mod (fun _ => False) w w'
set_option maxHeartbeats 2000000 in
theorem Copy_St : CopiesS StR 38 64 := by
 intro R2 v l w hs hB2 hl
 obtain ⟨ao, cap, rfl⟩ := hs.shape
 have HS := Lib.hid hs
 have HBT := Lib.hid hB2
 clear hs hB2
 go_enter Try.func64, Try.ntmps64
 go_upto_region 1 with (fail)
 have HM0 := hid (Mod.refl (fun _ => False) w)
 go_upto_region 1 with (fail)
 refine wp_region_U 5 [3, 4, 2] [0, 1, 2] (fun a0 HA0 => ?_)
 have oe0 := ev HA0 0 rfl
 refine QSeq.pure rfl _ (fun E => ex_move rfl (E.v oe0)) ?_
 refine QSeq.go fun act E => ?_
 refine qc_appS (A := StR) (e := 38) rfl (wanted_none rfl) rfl (.agg #[.int .i64 0, .int .i64 0, .int .i64 0, .int .u8 0, .int .u8 0, .int .u8 0, .int .u8 0, .int .u8 0, .int .u8 0, .int .u8 0, .int .u8 0, .int .u8 0, .int .u8 0, .int .u8 0, .int .u8 0, .int .u8 0, .int .u8 0, .int .u8 0, .int .u8 0, .int .u8 0, .int .u8 0, .int .u8 0, .int .u8 0, .int .u8 0, .int .u8 0, .int .u8 0, .int .u8 0, .int .u8 0, .int .u8 0, .int .u8 0, .int .u8 0, .int .u8 0, .int .u8 0, .int .u8 0, .int .u8 0, .int .u64 0, .int .i64 0, .int .i64 0]) 80 Try.underlying39 info_St (by rfl) (of_decide_eq_true (by kernel_rfl)) rfl (E.d 0 0) (OwS.nil _ _ (fun _ => False) (fun _ => False) _) (HS.out) (fun _ _ h => h) (by simp only [List.length_nil]; omega) (by simp only [List.length_nil]; rw [maxLen_val]; omega) ?_
 intro ao0 cap0 u1_1 qout hm
 have Hx1 := hid (qout.widen (R' := (fun k => (New w u1_1 k))) (E' := (fun k => (R2 k))) (fun _ h => h.elim (fun h => h.elim) (fun h => h)) (by intro k h1; rcases h1 with h1 | h1 <;> first | omega | exact h1.elim | exact h1))
 have zu1_1 := hm.size
 have Cx2 := hid (show Mod (fun _ => False) w u1_1 from hm)
 clear hm
 clear act E qout
 refine QSeq.pure rfl _ (fun E => ex_assign rfl (E.d 1 0)) ?_
 refine QSeq.nil (t' := [_, _, _]) rfl ?_
 obtain rfl := HA0.out
 clear HA0 oe0
 simp only [pz, Act.put, sIB, sCZ, sCS]
 go_wp2
 go_ret
 have hq := Hx1.out
 exact ⟨_, rfl, hq.widen (by intro k h; omega) (by intro k h; exact h), (HM0.out.trans Cx2.out (fun _ _ h => h.elim))⟩
set_option maxHeartbeats 2000000 in
theorem Copy_Dn : CopiesS DnR 62 65 := by
 intro R2 v l w hs hB2 hl
 obtain ⟨ao, cap, rfl⟩ := hs.shape
 have HS := Lib.hid hs
 have HBT := Lib.hid hB2
 clear hs hB2
 go_enter Try.func65, Try.ntmps65
 go_upto_region 1 with (fail)
 have HM0 := hid (Mod.refl (fun _ => False) w)
 go_upto_region 1 with (fail)
 refine wp_region_U 5 [3, 4, 2] [0, 1, 2] (fun a0 HA0 => ?_)
 have oe0 := ev HA0 0 rfl
 refine QSeq.pure rfl _ (fun E => ex_move rfl (E.v oe0)) ?_
 refine QSeq.go fun act E => ?_
 refine qc_appS (A := DnR) (e := 62) rfl (wanted_none rfl) rfl (.agg #[.int .i64 0, .int .i64 0, .int .i64 0, .int .i64 0]) 32 Try.underlying119 info_Dn (by rfl) (of_decide_eq_true (by kernel_rfl)) rfl (E.d 0 0) (OwS.nil _ _ (fun _ => False) (fun _ => False) _) (HS.out) (fun _ _ h => h) (by simp only [List.length_nil]; omega) (by simp only [List.length_nil]; rw [maxLen_val]; omega) ?_
 intro ao0 cap0 u1_1 qout hm
 have Hx1 := hid (qout.widen (R' := (fun k => (New w u1_1 k))) (E' := (fun k => (R2 k))) (fun _ h => h.elim (fun h => h.elim) (fun h => h)) (by intro k h1; rcases h1 with h1 | h1 <;> first | omega | exact h1.elim | exact h1))
 have zu1_1 := hm.size
 have Cx2 := hid (show Mod (fun _ => False) w u1_1 from hm)
 clear hm
 clear act E qout
 refine QSeq.pure rfl _ (fun E => ex_assign rfl (E.d 1 0)) ?_
 refine QSeq.nil (t' := [_, _, _]) rfl ?_
 obtain rfl := HA0.out
 clear HA0 oe0
 simp only [pz, Act.put, sIB, sCZ, sCS]
 go_wp2
 go_ret
 have hq := Hx1.out
 exact ⟨_, rfl, hq.widen (by intro k h; omega) (by intro k h; exact h), (HM0.out.trans Cx2.out (fun _ _ h => h.elim))⟩
set_option maxHeartbeats 2000000 in
theorem Cut_St : CutsS StR 38 58 := by
 intro R2 v l n w hs hB2 hn
 obtain ⟨css, k1, k2, ⟨k3, ao, cap, rfl, hlc, hcm, k5, k6⟩, k7⟩ := id hs
 clear k1 k2 k3 k5 k6 k7
 rw [maxLen_val] at hcm
 have HS := Lib.hid hs
 have HBT := Lib.hid hB2
 clear hs hB2
 clear css
 go_enter Try.func58, Try.ntmps58
 go_upto_region 1 with (fail)
 have HM0 := hid (Mod.refl (fun _ => False) w)
 go_upto_region 1 with (fail)
 refine wp_region_U 12 [5, 6, 7, 8, 9, 10, 11, 4] [0, 1, 2, 3, 4, 5, 6, 7] (fun a0 HA0 => ?_)
 have oe0 := ev HA0 0 rfl
 have oe1 := ev HA0 1 rfl
 refine QSeq.pure rfl _ (fun E => ex_move rfl (E.v oe0)) ?_
 refine QSeq.pure rfl _ (fun E => ex_move rfl (E.v oe0)) ?_
 refine QSeq.pure rfl (.int .i64 l.length) (fun E => ex_lenS rfl (E.d 1 0) Try.underlying39) ?_
 refine QSeq.pure rfl _ (fun E => ex_move rfl (E.v oe1)) ?_
 refine QSeq.pure rfl (.int .i64 ((min l.length n : Nat) : Int)) (fun E => ex_min (r := ((min l.length n : Nat) : Int)) rfl (E.d 2 1) (E.d 3 0) (by split <;> omega)) ?_
 refine QSeq.pure rfl (.slice ao (min l.length n) cap) (fun E => ex_sliceTo (i := min l.length n) (s := 38) rfl Try.underlying39 (by kernel_rfl) (E.d 0 4) (E.d 4 0) (by omega)) ?_
 refine QSeq.call rfl rfl Try.func64 (Copy_St _ _ (l.take (min l.length n)) _ (HS.out.upto (min l.length n) (by omega)) (by intro k h1; have hb := HBT.out k h1; omega) (by simp; omega)) (fun E => args1 (E.d 5 0)) ?_
 rintro e u1_6 ⟨v', rfl, qout, hm⟩
 refine ⟨_, rfl, ?_⟩
 have Hx1 := hid (qout.widen (R' := (fun k => (New w u1_6 k))) (E' := (fun k => (R2 k))) (fun _ h => h) (fun _ h => h))
 have zu1_6 := hm.size
 have Cx2 := hid (show Mod (fun _ => False) w u1_6 from hm)
 clear hm
 clear qout
 refine QSeq.pure rfl _ (fun E => ex_assign rfl (E.d 6 0)) ?_
 refine QSeq.nil (t' := [_, _, _, _, _, _, _, _]) rfl ?_
 obtain rfl := HA0.out
 clear HA0 oe0 oe1
 simp only [pz, Act.put, sIB, sCZ, sCS]
 go_wp2
 go_ret
 have hq := Hx1.out
 rw [show l.take (min l.length n) = l.take n by rw [Nat.min_comm, ← List.take_take, List.take_length]] at hq
 exact ⟨v', rfl, hq.widen (by intro k h; omega) (fun _ h => h), (HM0.out.trans Cx2.out (fun _ _ h => h.elim))⟩
set_option maxHeartbeats 2000000 in
theorem Cut_Dn : CutsS DnR 62 59 := by
 intro R2 v l n w hs hB2 hn
 obtain ⟨css, k1, k2, ⟨k3, ao, cap, rfl, hlc, hcm, k5, k6⟩, k7⟩ := id hs
 clear k1 k2 k3 k5 k6 k7
 rw [maxLen_val] at hcm
 have HS := Lib.hid hs
 have HBT := Lib.hid hB2
 clear hs hB2
 clear css
 go_enter Try.func59, Try.ntmps59
 go_upto_region 1 with (fail)
 have HM0 := hid (Mod.refl (fun _ => False) w)
 go_upto_region 1 with (fail)
 refine wp_region_U 12 [5, 6, 7, 8, 9, 10, 11, 4] [0, 1, 2, 3, 4, 5, 6, 7] (fun a0 HA0 => ?_)
 have oe0 := ev HA0 0 rfl
 have oe1 := ev HA0 1 rfl
 refine QSeq.pure rfl _ (fun E => ex_move rfl (E.v oe0)) ?_
 refine QSeq.pure rfl _ (fun E => ex_move rfl (E.v oe0)) ?_
 refine QSeq.pure rfl (.int .i64 l.length) (fun E => ex_lenS rfl (E.d 1 0) Try.underlying119) ?_
 refine QSeq.pure rfl _ (fun E => ex_move rfl (E.v oe1)) ?_
 refine QSeq.pure rfl (.int .i64 ((min l.length n : Nat) : Int)) (fun E => ex_min (r := ((min l.length n : Nat) : Int)) rfl (E.d 2 1) (E.d 3 0) (by split <;> omega)) ?_
 refine QSeq.pure rfl (.slice ao (min l.length n) cap) (fun E => ex_sliceTo (i := min l.length n) (s := 4) rfl Try.underlying119 (by kernel_rfl) (E.d 0 4) (E.d 4 0) (by omega)) ?_
 refine QSeq.call rfl rfl Try.func65 (Copy_Dn _ _ (l.take (min l.length n)) _ (HS.out.upto (min l.length n) (by omega)) (by intro k h1; have hb := HBT.out k h1; omega) (by simp; omega)) (fun E => args1 (E.d 5 0)) ?_
 rintro e u1_6 ⟨v', rfl, qout, hm⟩
 refine ⟨_, rfl, ?_⟩
 have Hx1 := hid (qout.widen (R' := (fun k => (New w u1_6 k))) (E' := (fun k => (R2 k))) (fun _ h => h) (fun _ h => h))
 have zu1_6 := hm.size
 have Cx2 := hid (show Mod (fun _ => False) w u1_6 from hm)
 clear hm
 clear qout
 refine QSeq.pure rfl _ (fun E => ex_assign rfl (E.d 6 0)) ?_
 refine QSeq.nil (t' := [_, _, _, _, _, _, _, _]) rfl ?_
 obtain rfl := HA0.out
 clear HA0 oe0 oe1
 simp only [pz, Act.put, sIB, sCZ, sCS]
 go_wp2
 go_ret
 have hq := Hx1.out
 rw [show l.take (min l.length n) = l.take n by rw [Nat.min_comm, ← List.take_take, List.take_length]] at hq
 exact ⟨v', rfl, hq.widen (by intro k h; omega) (fun _ h => h), (HM0.out.trans Cx2.out (fun _ _ h => h.elim))⟩
end Go.Proofs.Ytekbmpjdombedaa

/- Certificates and promises that are cut. -/
namespace Go.Proofs.Ytekbmpjdombedaa
open Go Go.RowKit Go.Gv


/-- a function that gives a thing anew, cut -/
def CutR {α : Type} (A : Rep α) (F : FuncId) (f : α → α) : Prop := ∀ (R2 : Nat → Prop) (x : α) (cs : List Value) (w : World), A.rd R2 w cs x → (∀ k, R2 k → k < w.heap.size) →
 Calls Try.prog F #[.agg cs.toArray] w fun e w' => ∃ cs', e = .returned (.agg cs'.toArray) ∧ A.rd (fun k => R2 k ∨ New w w' k) w' cs' (f x) ∧ Mod (fun _ => False) w w'
theorem size_ce : (Try.prog.info? 41).map (·.size) = some (37 + 1) := by kernel_rfl
theorem one_ce (c : Cm) (v : Value) (h : v.oneCell' = true) : ∀ u ∈ c.cells ++ [v], u.oneCell' = true := by
 intro u hu
 rw [List.mem_append] at hu
 rcases hu with hu | hu
 ·exact Cm_one _ _ hu
 ·simp at hu; subst hu; exact h
theorem take_two {α : Type} {l : List α} {k n : Nat} (hk : k ≤ n) (h : k = n ∨ l.length ≤ k) : l.take k = l.take n := by
 rcases h with rfl | h
 ·rfl
 ·rw [List.take_of_length_le h, List.take_of_length_le (by omega)]
theorem lay_l (c : Cm) (u v : Value) (hl : c.h.length = 32) : lay (c.cells ++ [u]).toArray 37 [v] = (c.cells ++ [v]).toArray := by
 have h37 := Cm.len hl
 simp [lay, h37]
end Go.Proofs.Ytekbmpjdombedaa
