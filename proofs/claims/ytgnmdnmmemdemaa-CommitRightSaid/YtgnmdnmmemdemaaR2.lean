/- Texts that are built one behind the other: XQ, XRep, XKeep, XCode2, XCode3, XCode1, XCode4, XKeep2, XCodeW, XPlain1, XReg, XLift, XFits, XIdx, XArith, XQ2, XQ4, XRef1, XJoin, XQ3, XSha1, XSha2. No condition. -/
import Derived.Test.YtgnmdnmmemdemaaR1
import Derived.Deep.DeepMust
import Derived.Laws.Cover3
import Derived.Laws.CopyOwn
import Derived.OpenShut
import Derived.ProofKit
import Derived.ChangeOld
import Derived.Deep.Slices
import Derived.Laws.Small
import Derived.Lib.ConvBytes
import Derived.IntWalk
import Derived.Deep.Cut
/- A region whose operations that turn what stood before stand one behind the other (the chain): they are told step by step, as straight code; beside them stand operations that only read or make blocks of their own, and new variables that are written whole. No program here. -/
set_option linter.unusedVariables false
namespace Go.Gv
open Go Go.RowKit

section
variable {P : Program} {ops : Array Oper} {Q : Exit → Act → World → Prop}
/-- what is said of an operation's answer: the new blocks that may still be turned; the chain's answers so far; the answer; the world -/
abbrev QPred := (Nat → Prop) → List Value → Value → World → Prop
/-- what the operations beside the chain may do: new blocks; a new block that nobody turns may be marked -/
structure QE (B : Nat) (Z : Nat → Prop) (w w' : World) : Prop where
  os : w'.os = w.os
  tape : w'.tape = w.tape
  output : w'.output = w.output
  size : w.heap.size ≤ w'.heap.size
  block : ∀ k, k < w.heap.size → w'.heap[k]? = w.heap[k]? ∨ (B ≤ k ∧ ¬ Z k ∧ ∃ C T m m', w.heap[k]? = some (.cells C T m) ∧ w'.heap[k]? = some (.cells C T m'))
structure QStable (B : Nat) (S0 : Nat → Prop) (p : QPred) : Prop where
  env : ∀ Z t v w w', p Z t v w → QE B Z w w' → p Z t v w'
  on : ∀ Z Z' t t' v w w', p Z t v w → Mod (fun j => (j < B ∧ S0 j) ∨ (B ≤ j ∧ Z j)) w w' → (∀ j, Z' j → Z j ∨ w.heap.size ≤ j) → (t' = t ∨ ∃ u, t' = t ++ [u]) → p Z' t' v w'
variable {B : Nat} {S0 : Nat → Prop} {Z Z' Y : Nat → Prop} {w w' : World} {t t' : List Value}
theorem QE.still (h : Mod (fun _ => False) w w') : QE B Z w w' := ⟨h.os, h.tape, h.output, h.size, fun k hk => Or.inl (h.block k hk (fun h => h))⟩
theorem QE.refl : QE B Z w w := QE.still (Mod.refl _ _)
theorem QE.mod (h : QE B Z w w') (hY : ∀ j, Y j → Z j) : Mod (fun j => B ≤ j ∧ ¬ Y j) w w' :=
  ⟨h.os, h.tape, h.output, h.size, fun k hk hn => (h.block k hk).elim (fun h => h) (fun ⟨h1, h2, _⟩ => absurd ⟨h1, fun h => h2 (hY k h)⟩ hn)⟩
theorem QE.cell (h : QE B Z w w') {p : Addr} {u : Value} (hc : w.cell? p = some u) : w'.cell? p = some u := by
  rcases h.block p.block (World.block_lt_of_cell? _ _ hc) with e | ⟨-, -, C, T, m, m', e1, e2⟩
  · exact (World.cell?_of_block e).trans hc
  · unfold World.cell? at hc ⊢
    rw [e1] at hc
    rw [e2]
    exact hc
def qi (x : Value) : QPred := fun _ _ v _ => v = x
def qa : QPred := fun _ _ _ _ => True
def qv (j : Nat) : QPred := fun _ t v _ => t[j]? = some v
/-- known from the chain's first k answers -/
def qf (k : Nat) (f : List Value → Value) : QPred := fun _ t v _ => k ≤ t.length ∧ v = f (t.take k)
/-- only where a test says so -/
def qc (b : Bool) (p : QPred) : QPred := fun Z t v w => (b = true → p Z t v w) ∧ (b = false → v = undef)
/-- a literal's row -/
def ql (B : Nat) (T8 : TypeId) (C : Array Value) : QPred := fun Z _ v w => ∃ g, v = .slice (some ⟨g, 0, none⟩) C.size C.size ∧ B ≤ g ∧ ¬ Z g ∧ ∃ m, w.heap[g]? = some (.cells C T8 m)
theorem qi_stable {x : Value} : QStable B S0 (qi x) := ⟨fun _ _ _ _ _ h _ => h, fun _ _ _ _ _ _ _ h _ _ _ => h⟩
theorem qa_stable : QStable B S0 qa := ⟨fun _ _ _ _ _ h _ => h, fun _ _ _ _ _ _ _ h _ _ _ => h⟩
theorem qv_stable {j : Nat} : QStable B S0 (qv j) := ⟨fun _ _ _ _ _ h _ => h, fun Z Z' t t' v w w' h _ _ ht => by
  rcases ht with rfl | ⟨u, rfl⟩
  · exact h
  · exact gv_at h⟩
theorem qc_stable {b : Bool} {p : QPred} (h : QStable B S0 p) : QStable B S0 (qc b p) :=
  ⟨fun Z t v w w' hp he => ⟨fun hb => h.env _ _ _ _ _ (hp.1 hb) he, hp.2⟩, fun Z Z' t t' v w w' hp hm hz ht => ⟨fun hb => h.on _ _ _ _ _ _ _ (hp.1 hb) hm hz ht, hp.2⟩⟩
theorem ql_stable {T8 : TypeId} {C : Array Value} : QStable B S0 (ql B T8 C) where
  env Z t v w w' h he := by
    obtain ⟨g, h1, h2, h3, m, h4⟩ := h
    rcases he.block g (Array.getElem?_eq_some_iff.1 h4).1 with e | ⟨-, -, C', T', m1, m2, e1, e2⟩
    · exact ⟨g, h1, h2, h3, m, e.trans h4⟩
    · rw [h4] at e1
      cases e1
      exact ⟨g, h1, h2, h3, m2, e2⟩
  on Z Z' t t' v w w' h hm hz ht := by
    obtain ⟨g, h1, h2, h3, m, h4⟩ := h
    have hlt := (Array.getElem?_eq_some_iff.1 h4).1
    refine ⟨g, h1, h2, fun hg => ?_, m, hm.obj h4 (fun hs => ?_)⟩
    · rcases hz g hg with h | h
      · exact h3 h
      · omega
    · rcases hs with hs | hs
      · omega
      · exact h3 hs.2
def AllQ (B : Nat) (S0 : Nat → Prop) : List QPred → Prop
  | [] => True
  | p :: r => QStable B S0 p ∧ AllQ B S0 r
theorem AllQ.get : ∀ (l : List QPred), AllQ B S0 l → ∀ i, QStable B S0 (l.getD i qa)
  | [], _, _ => by simpa using qa_stable
  | p :: r, h, 0 => h.1
  | p :: r, h, i + 1 => by simpa using AllQ.get r h.2 i

/-- a new variable that is written whole: the operation that makes it, the one that writes it, its type, its zero; what is written hangs on the chain's first k answers -/
structure QRow where
  a : Nat
  s : Nat
  T : TypeId
  z : List Value
  k : Nat
  c : List Value → List Value
def qDist (al : List QRow) : Bool := decide ((al.map (·.a) ++ al.map (·.s)).Nodup)
theorem q_uniq {al : List QRow} (h : qDist al = true) : (∀ r ∈ al, ∀ r' ∈ al, r.a = r'.a → r = r') ∧ (∀ r ∈ al, ∀ r' ∈ al, r.s = r'.s → r = r') ∧ (∀ r ∈ al, ∀ r' ∈ al, r.a ≠ r'.s) := by
  unfold qDist at h
  have h := of_decide_eq_true h
  obtain ⟨h1, h2, h3⟩ := List.nodup_append.1 h
  refine ⟨fun r hr r' hr' e => ?_, fun r hr r' hr' e => ?_, fun r hr r' hr' => h3 _ (List.mem_map.2 ⟨r, hr, rfl⟩) _ (List.mem_map.2 ⟨r', hr', rfl⟩)⟩
  · obtain ⟨j, hj⟩ := List.getElem?_of_mem hr
    obtain ⟨j', hj'⟩ := List.getElem?_of_mem hr'
    have e1 : (al.map (·.a))[j]? = some r.a := by rw [List.getElem?_map, hj]; rfl
    have e2 : (al.map (·.a))[j']? = some r.a := by rw [List.getElem?_map, hj', e]; rfl
    have := (List.getElem?_inj (List.getElem?_eq_some_iff.1 e1).1 h1).1 (e1.trans e2.symm)
    subst this
    exact Option.some.inj (hj.symm.trans hj')
  · obtain ⟨j, hj⟩ := List.getElem?_of_mem hr
    obtain ⟨j', hj'⟩ := List.getElem?_of_mem hr'
    have e1 : (al.map (·.s))[j]? = some r.s := by rw [List.getElem?_map, hj]; rfl
    have e2 : (al.map (·.s))[j']? = some r.s := by rw [List.getElem?_map, hj', e]; rfl
    have := (List.getElem?_inj (List.getElem?_eq_some_iff.1 e1).1 h2).1 (e1.trans e2.symm)
    subst this
    exact Option.some.inj (hj.symm.trans hj')

/-- what the chain has still to do: told step by step -/
def QChain (P : Program) (ops : Array Oper) (Q : Exit → Act → World → Prop) (a0 : Act) (n : Nat) (ss : List Nat) (B : Nat) (S0 : Nat → Prop) (SS : Nat → Nat → Prop) (l : List QPred) (al : List QRow) : List Nat → Nat → (Nat → Prop) → List Value → World → Prop
  | [], _, Y, t, w => ∀ vs, vs.length = ss.length → (∃ Z : Nat → Prop, (∀ j, Y j → Z j) ∧ (∀ j, Z j → B ≤ j ∧ j < w.heap.size) ∧ ∀ p v, vs[p]? = some v → (l.getD p qa) Z t v w) →
      (∀ r ∈ al, ∃ q, vs[r.a]? = some (.pointer (some ⟨q, 0, none⟩)) ∧ B ≤ q ∧ ¬ Y q ∧ Cs w q (r.c (t.take r.k)).toArray r.T) → (∀ r ∈ al, ∀ r' ∈ al, r.a ≠ r'.a → vs[r.a]? ≠ vs[r'.a]?) → Q .normal (putAll a0 ss vs) w
  | i :: c, k, Y, t, w => ∀ Z a, (∀ j, Y j → Z j) → (∀ j, Z j → B ≤ j ∧ j < w.heap.size) → (∀ t, t ∉ ss → a.eval (.tmp t) = a0.eval (.tmp t)) → (∀ s, s < n → s < a.tmps.size) →
      (∀ o, ops[i]? = some o → ∀ e ∈ o.after, Region.binds .any e = true → ∀ s, (ops[e.on]?).bind (·.dst) = some s → (l.getD e.on qa) Z t (a.eval (.tmp s)) w) →
      (∀ j s, (ops[j]?).bind (·.dst) = some s → (clo ops ops.size (afterOf ops j)).contains i = true → a.eval (.tmp s) = a0.eval (.tmp s)) → 
      wpOp P ops Q i (fun a' w' => ∃ o v, ops[i]? = some o ∧ a' = a.put o.dst v ∧ Mod (fun j => (j < B ∧ SS k j) ∨ Y j) w w' ∧ (∀ Z, (l.getD i qa) Z (t ++ [v]) v w') ∧
        ∀ w'', Mod (fun j => B ≤ j ∧ ¬ (Y j ∨ (w.heap.size ≤ j ∧ j < w'.heap.size))) w' w'' → QChain P ops Q a0 n ss B S0 SS l al c (k + 1) (fun j => Y j ∨ (w.heap.size ≤ j ∧ j < w'.heap.size)) (t ++ [v]) w'') a w

/-- what is to be shown of an operation that makes a new variable -/
def MakesQ (P : Program) (r : QRow) (o : Oper) : Prop := o.guard = none ∧ o.op = .alloc r.T ∧ (P.info? r.T).bind (·.zero) = some (.agg r.z.toArray) ∧ (P.info? r.T).map (·.size) = some r.z.length
/-- of one that writes it -/
def WritesQ (ops : Array Oper) (a0 : Act) (w0 : World) (n : Nat) (ss : List Nat) (S0 : Nat → Prop) (l : List QPred) (r : QRow) (i : Nat) (o : Oper) : Prop :=
  o.guard = none ∧ ∃ sa y, (ops[r.a]?).bind (·.dst) = some sa ∧ sa < n ∧ o.op = .store r.T (.tmp sa) y ∧ (clo ops ops.size (afterOf ops i)).contains r.a = true ∧
    ∀ (Z : Nat → Prop) (t : List Value) (a : Act) (w : World), Mod (fun j => (j < w0.heap.size ∧ S0 j) ∨ w0.heap.size ≤ j) w0 w → (∀ t, t ∉ ss → a.eval (.tmp t) = a0.eval (.tmp t)) → (∀ s, s < n → s < a.tmps.size) →
      (∀ e ∈ o.after, Region.binds .any e = true → ∀ s, (ops[e.on]?).bind (·.dst) = some s → (l.getD e.on qa) Z t (a.eval (.tmp s)) w) → (∀ j s, (ops[j]?).bind (·.dst) = some s → (clo ops ops.size (afterOf ops j)).contains i = true → a.eval (.tmp s) = a0.eval (.tmp s)) → r.k ≤ t.length ∧ (a.eval y).cells = (r.c (t.take r.k)).toArray ∧ (r.c (t.take r.k)).length = r.z.length ∧ ∀ u ∈ r.c (t.take r.k), u.oneCell' = true
/-- how an operation beside the chain leaves things -/
def QJ (B : Nat) (l : List QPred) (Z : Nat → Prop) (i : Nat) (o : Oper) (t : List Value) (a : Act) (w : World) : Act → World → Prop := fun a' w' => ∃ v, a' = a.put o.dst v ∧ QE B Z w w' ∧ (l.getD i qa) Z t v w'
def StepQ (P : Program) (ops : Array Oper) (Q : Exit → Act → World → Prop) (a0 : Act) (w0 : World) (n : Nat) (ss : List Nat) (S0 : Nat → Prop) (SS : Nat → Nat → Prop) (l : List QPred) (c : List Nat) (al : List QRow) (i : Nat) (o : Oper) : Prop :=
  if c.contains i then True else
  match al.find? (fun r => r.a == i) with
  | some r => MakesQ P r o
  | none => match al.find? (fun r => r.s == i) with
    | some r => WritesQ ops a0 w0 n ss S0 l r i o
    | none => ∀ (Z : Nat → Prop) t a w, (∀ j, Z j → w0.heap.size ≤ j ∧ j < w.heap.size) → Mod (fun j => (j < w0.heap.size ∧ S0 j) ∨ w0.heap.size ≤ j) w0 w → Mod (fun j => (j < w0.heap.size ∧ ∃ k, k < t.length ∧ SS k j) ∨ w0.heap.size ≤ j) w0 w → (∀ t, t ∉ ss → a.eval (.tmp t) = a0.eval (.tmp t)) → (∀ s, s < n → s < a.tmps.size) →
        (∀ e ∈ o.after, Region.binds .any e = true → ∀ s, (ops[e.on]?).bind (·.dst) = some s → (l.getD e.on qa) Z t (a.eval (.tmp s)) w) → (∀ k q, c[k]? = some q → (clo ops ops.size (afterOf ops q)).contains i = true → t.length ≤ k) → (∀ j s, (ops[j]?).bind (·.dst) = some s → (clo ops ops.size (afterOf ops j)).contains i = true → a.eval (.tmp s) = a0.eval (.tmp s)) → 
        wpOp P ops Q i (QJ w0.heap.size l Z i o t a w) a w
/-- the new variables: made ones stand in blocks of their own -/
structure QInv (Ao : Nat → Prop) (al : List QRow) (L : Nat → Bool) (t : List Value) (vs : List Value) (w : World) : Prop where
  at_ : ∀ r ∈ al, L r.a = true → ∃ q, vs[r.a]? = some (.pointer (some ⟨q, 0, none⟩)) ∧ Ao q ∧ Cs w q (if L r.s then (r.c (t.take r.k)).toArray else r.z.toArray) r.T ∧ (L r.s = true → r.k ≤ t.length)
  ne : ∀ r ∈ al, ∀ r' ∈ al, r.a ≠ r'.a → L r.a = true → L r'.a = true → vs[r.a]? ≠ vs[r'.a]?
theorem QInv.other {Ao Ao' : Nat → Prop} {al : List QRow} {L : Nat → Bool} {t t' : List Value} {vs : List Value} {w w' : World} (h : QInv Ao al L t vs w) {i : Nat} {v : Value} (hi : ∀ r ∈ al, r.a ≠ i ∧ r.s ≠ i) (hA : ∀ q, Ao q → Ao' q) (ht : t' = t ∨ ∃ u, t' = t ++ [u]) (hc : ∀ q c T, Ao q → Cs w q c T → Cs w' q c T) : QInv Ao' al (upd L i) t' (vs.set i v) w' := by
  have hu : ∀ r ∈ al, upd L i r.a = L r.a ∧ upd L i r.s = L r.s := fun r hr => by unfold upd; rw [if_neg (hi r hr).1, if_neg (hi r hr).2]; exact ⟨rfl, rfl⟩
  have hv : ∀ r ∈ al, (vs.set i v)[r.a]? = vs[r.a]? := fun r hr => List.getElem?_set_ne (Ne.symm (hi r hr).1)
  refine ⟨fun r hr hL => ?_, fun r hr r' hr' hne h1 h2 => ?_⟩
  · rw [(hu r hr).1] at hL
    obtain ⟨q, e1, e2, e3, e4⟩ := h.at_ r hr hL
    rw [hv r hr, (hu r hr).2]
    refine ⟨q, e1, hA q e2, ?_, fun hs => ?_⟩
    · have e5 := hc q _ _ e2 e3
      rcases ht with rfl | ⟨u, rfl⟩
      · exact e5
      · cases hs : L r.s with
        | false => rw [hs] at e5; exact e5
        | true =>
          rw [hs] at e5
          rw [List.take_append_of_le_length (e4 hs)]
          exact e5
    · have := e4 hs
      rcases ht with rfl | ⟨u, rfl⟩
      · exact this
      · rw [List.length_append]; omega
  · rw [(hu r hr).1] at h1
    rw [(hu r' hr').1] at h2
    rw [hv r hr, hv r' hr']
    exact h.ne r hr r' hr' hne h1 h2

theorem wp_region_Q {d : Bool} {id : Nat} {a0 : Act} {w0 : World} (n : Nat) (hn : a0.tmps.size = n) (hm : P.follows .mixedOrders = true) (hac : backward ops = true) (ss : List Nat) (hss : okSlots ops n ss = true) (hnd : ss.Nodup)
    (S0 : Nat → Prop) (SS : Nat → Nat → Prop) (hSS : ∀ k j, SS k j → S0 j) (l : List QPred) (stable : AllQ w0.heap.size S0 l) (c : List Nat) (hlk : linked ops c = true) (hcn : c.Nodup) (hcs : (c.all fun i => decide (i < ops.size)) = true)
    (al : List QRow) (hal : qDist al = true) (hac2 : ∀ r ∈ al, c.contains r.a = false ∧ c.contains r.s = false) (hals : ∀ r ∈ al, r.a < ops.size ∧ r.s < ops.size) (hga : ∀ r ∈ al, ∀ Z t v w, (l.getD r.a qa) Z t v w ∧ (l.getD r.s qa) Z t v w)
    (step : Each (StepQ P ops Q a0 w0 n ss S0 SS l c al) 0 ops.toList)
    (start : ∀ w1, Mod (fun j => w0.heap.size ≤ j) w0 w1 → QChain P ops Q a0 n ss w0.heap.size S0 SS l al c 0 (fun _ => False) [] w1) : (Code.region id ops d).wp P Q a0 w0 := by
  have hinj : ∀ (j k i : Nat), c[j]? = some i → c[k]? = some i → j = k := by
    intro j k i h1 h2
    exact (List.getElem?_inj (List.getElem?_eq_some_iff.1 h1).1 hcn).1 (h1.trans h2.symm)
  obtain ⟨hu1, hu2, hu3⟩ := q_uniq hal
  have fa : ∀ r ∈ al, al.find? (fun x => x.a == r.a) = some r := by
    intro r hr
    cases hq : al.find? (fun x => x.a == r.a) with
    | none => have := List.find?_eq_none.1 hq r hr; simp at this
    | some r' =>
      have e := List.find?_some hq
      rw [hu1 r' (List.mem_of_find?_eq_some hq) r hr (by simpa using e)]
  have fs : ∀ r ∈ al, al.find? (fun x => x.s == r.s) = some r := by
    intro r hr
    cases hq : al.find? (fun x => x.s == r.s) with
    | none => have := List.find?_eq_none.1 hq r hr; simp at this
    | some r' =>
      have e := List.find?_some hq
      rw [hu2 r' (List.mem_of_find?_eq_some hq) r hr (by simpa using e)]
  have fas : ∀ r ∈ al, al.find? (fun x => x.a == r.s) = none := by
    intro r hr
    rw [List.find?_eq_none]
    intro x hx
    simpa using hu3 x hx r hr
  refine wp_region_both hm (backward_spec hac) ss (fun L vs w => ∃ (Y A : Nat → Prop) (t : List Value), Mod (fun j => (j < w0.heap.size ∧ S0 j) ∨ w0.heap.size ≤ j) w0 w ∧ Mod (fun j => (j < w0.heap.size ∧ ∃ k, k < t.length ∧ SS k j) ∨ w0.heap.size ≤ j) w0 w ∧ (∀ x, ops.size ≤ x → L x = false) ∧ Down ops L ∧
      t.length ≤ c.length ∧ (∀ j p, j < t.length → c[j]? = some p → L p = true) ∧ (∀ j p, t.length ≤ j → c[j]? = some p → L p = false) ∧ (∀ j, Y j → w0.heap.size ≤ j ∧ j < w.heap.size) ∧ (∀ j, A j → w0.heap.size ≤ j ∧ j < w.heap.size ∧ ¬ Y j) ∧
      (∀ w'', Mod (fun j => w0.heap.size ≤ j ∧ ¬ Y j) w w'' → QChain P ops Q a0 n ss w0.heap.size S0 SS l al (c.drop t.length) t.length Y t w'') ∧ (∀ p v, L p = true → vs[p]? = some v → (l.getD p qa) (fun j => Y j ∨ A j) t v w) ∧ QInv A al L t vs w ∧ ∀ p, L p = false → vs[p]? = (ss.map fun s => a0.tmps.getD s undef)[p]?)
    ⟨fun _ => False, fun _ => False, [], Mod.refl _ _, Mod.refl _ _, (fun _ _ => rfl), (fun i h => by cases h), Nat.zero_le _, (fun j p h => by simp at h), (fun _ _ _ _ => rfl), (fun _ h => h.elim), (fun _ h => h.elim), (fun w'' h => start w'' (h.mono fun _ _ h => h.1)), (fun p v h => by cases h), ⟨(fun _ _ h => by cases h), (fun _ _ _ _ _ h => by cases h)⟩, fun _ _ => rfl⟩
    ⟨fun _ => False, fun _ => False, [], (Mod.refl _ _).drew, (Mod.refl _ _).drew, (fun _ _ => rfl), (fun i h => by cases h), Nat.zero_le _, (fun j p h => by simp at h), (fun _ _ _ _ => rfl), (fun _ h => h.elim), (fun _ h => h.elim), (fun w'' h => start w'' (((Mod.refl _ w0).drew).trans h fun _ _ h => h.1)), (fun p v h => by cases h), ⟨(fun _ _ h => by cases h), (fun _ _ _ _ _ h => by cases h)⟩, fun _ _ => rfl⟩ ?_ ?_
  · rintro i o ho L vs w hL hd hl ⟨Y, A, t, hmod, hmod0, hLout, hD, hkl, hk1, hk2, hY, hAb, hC, hV, hA, hU⟩
    have hst := Each.get _ 0 step i o (by simpa using ho)
    rw [Nat.zero_add] at hst
    obtain ⟨s, hs, hds⟩ := okSlots_at hss ho
    have haf : ∀ x ∈ afterOf ops i, L x = true := by
      intro x hx
      obtain ⟨o', ho', e, he, hb, rfl⟩ := mem_afterOf.1 hx
      rw [ho] at ho'
      cases ho'
      exact hd e he hb
    have hDn : Down ops (upd L i) := by
      intro j hj x hx
      unfold upd at hj ⊢
      by_cases e : x = i
      · rw [if_pos e]
      · rw [if_neg e]
        by_cases e2 : j = i
        · subst e2; exact haf x hx
        · rw [if_neg e2] at hj; exact hD j hj x hx
    have hLn : ∀ x, ops.size ≤ x → upd L i x = false := fun x hx => by
      have hi := (Array.getElem?_eq_some_iff.1 ho).1
      unfold upd
      rw [if_neg (by omega)]
      exact hLout x hx
    have hGk : ∀ k' : Nat, c[k']? = some i → k' = t.length := by
      intro k' hk'
      have hall := linked_all hD hlk k' i hk' haf
      rcases Nat.lt_trichotomy k' t.length with h | h | h
      · have := hk1 k' i h hk'; rw [hL] at this; cases this
      · exact h
      · have hlt : t.length < c.length := by have := (List.getElem?_eq_some_iff.1 hk').1; omega
        have := hall t.length c[t.length] h (List.getElem?_eq_getElem hlt)
        rw [hk2 t.length c[t.length] (Nat.le_refl _) (List.getElem?_eq_getElem hlt)] at this
        cases this
    have hub : ∀ k q, c[k]? = some q → (clo ops ops.size (afterOf ops q)).contains i = true → t.length ≤ k := by
      intro k q hq hc
      rcases Nat.lt_or_ge k t.length with h | h
      · have h1 := hk1 k q h hq
        have h2 := clo_done hD _ _ (fun x hx => hD q h1 x hx) i (by simpa using hc)
        rw [hL] at h2
        cases h2
      · exact h
    have hlt : i < vs.length := by rw [hl]; exact (List.getElem?_eq_some_iff.1 hs).1
    have hput : ∀ v, (putAll a0 ss vs).put o.dst v = putAll a0 ss (vs.set i v) := by
      intro v
      have e1 := putAll_put _ _ a0 i s v hnd hl hs
      rcases hds with ⟨h1, h2⟩ | ⟨h1, h2⟩
      · rw [h1]; exact e1
      · rw [h1, ← e1, put_far _ (by rw [putAll_size, hn]; exact h2)]; rfl
    have hpred : ∀ e ∈ o.after, Region.binds .any e = true → ∀ s', (ops[e.on]?).bind (·.dst) = some s' → (l.getD e.on qa) (fun j => Y j ∨ A j) t ((putAll a0 ss vs).eval (.tmp s')) w := by
      intro e he hb s' hs'
      have hLe := hd e he hb
      cases hoe : ops[e.on]? with
      | none => rw [hoe] at hs'; cases hs'
      | some o2 =>
        rw [hoe] at hs'
        obtain ⟨s2, hs2, hds2⟩ := okSlots_at hss hoe
        rcases hds2 with ⟨h1, h2⟩ | ⟨h1, h2⟩
        · have e3 : s2 = s' := Option.some.inj (h1.symm.trans hs')
          subst e3
          have hvl : e.on < vs.length := by rw [hl]; exact (List.getElem?_eq_some_iff.1 hs2).1
          rw [eval_in a0 ss vs e.on s2 vs[e.on] hnd hl hs2 (by rw [hn]; exact h2) (List.getElem?_eq_getElem hvl)]
          exact hV _ _ hLe (List.getElem?_eq_getElem hvl)
        · have : (none : Option Nat) = some s' := h1.symm.trans hs'
          cases this
    have hUn : ∀ v, ∀ p, upd L i p = false → (vs.set i v)[p]? = (ss.map fun s => a0.tmps.getD s undef)[p]? := by
      intro v p hp
      unfold upd at hp
      by_cases e : p = i
      · rw [if_pos e] at hp; cases hp
      · rw [if_neg e] at hp
        rw [List.getElem?_set_ne (Ne.symm e)]
        exact hU p hp
    have hpre : ∀ j s, (ops[j]?).bind (·.dst) = some s → (clo ops ops.size (afterOf ops j)).contains i = true → (putAll a0 ss vs).eval (.tmp s) = a0.eval (.tmp s) := by
      intro j s hj hc
      have hLj : L j = false := by
        cases hq : L j with
        | false => rfl
        | true =>
          have := clo_done hD _ _ (fun x hx => hD j hq x hx) i (by simpa using hc)
          rw [hL] at this
          cases this
      cases hoj : ops[j]? with
      | none => rw [hoj] at hj; cases hj
      | some o2 =>
        rw [hoj] at hj
        obtain ⟨s2, hs2, hds2⟩ := okSlots_at hss hoj
        rcases hds2 with ⟨h1, h2⟩ | ⟨h1, h2⟩
        · have e3 : s2 = s := Option.some.inj (h1.symm.trans hj)
          subst e3
          have hju := hU j hLj
          rw [List.getElem?_map, hs2] at hju
          exact eval_in a0 ss vs j s2 _ hnd hl hs2 (by rw [hn]; exact h2) hju
        · have : (none : Option Nat) = some s := h1.symm.trans hj
          cases this
    have hwant : o.guard = none → Region.wanted o (yielded ops (putAll a0 ss vs).tmps) = true := fun h => by simp [Region.wanted, h]
    have hZb : ∀ j, (Y j ∨ A j) → w0.heap.size ≤ j ∧ j < w.heap.size := fun j h => h.elim (hY j) (fun h => ⟨(hAb j h).1, (hAb j h).2.1⟩)
    have hout : ∀ t, t ∉ ss → (putAll a0 ss vs).eval (.tmp t) = a0.eval (.tmp t) := fun t ht => eval_out _ _ _ _ ht
    have hsz : ∀ s, s < n → s < (putAll a0 ss vs).tmps.size := fun t ht => by rw [putAll_size, hn]; exact ht
    have hnc : ∀ {p : Nat}, c.contains i = false → ∀ j, c[j]? = some p → ¬ p = i := fun hci j hp e => by
      subst e
      have : _ ∈ c := List.mem_of_getElem? hp
      simp [this] at hci
    unfold StepQ at hst
    by_cases hci : c.contains i = true
    · -- one of the chain
      obtain ⟨k', hk'⟩ := List.getElem?_of_mem (show i ∈ c by simpa using hci)
      have hkt := hGk k' hk'
      subst hkt
      have hdrop : c.drop t.length = i :: c.drop (t.length + 1) := by
        have hl2 := (List.getElem?_eq_some_iff.1 hk').1
        rw [List.drop_eq_getElem_cons hl2, (List.getElem?_eq_some_iff.1 hk').2]
      have hch := hC w (Mod.refl _ _)
      rw [hdrop] at hch
      refine wpOp_mono ?_ (hch (fun j => Y j ∨ A j) (putAll a0 ss vs) (fun j h => Or.inl h) hZb hout hsz (fun o' ho' e he hb s' hs' => by
        rw [ho] at ho'
        cases ho'
        exact hpred e he hb s' hs') hpre)
      rintro a' w' ⟨o', v, ho', rfl, hm', hv, hnext⟩
      rw [ho] at ho'
      cases ho'
      have hna : ∀ r ∈ al, r.a ≠ i ∧ r.s ≠ i := fun r hr => ⟨fun e => (by have := (hac2 r hr).1; rw [e, hci] at this; cases this), fun e => (by have := (hac2 r hr).2; rw [e, hci] at this; cases this)⟩
      have hmz : Mod (fun j => (j < w0.heap.size ∧ S0 j) ∨ (w0.heap.size ≤ j ∧ (Y j ∨ A j))) w w' := hm'.mono fun j _ h => h.elim (fun h => Or.inl ⟨h.1, hSS _ _ h.2⟩) (fun h => Or.inr ⟨(hY j h).1, Or.inl h⟩)
      refine ⟨vs.set i v, hput v, by simpa using hl, fun j => Y j ∨ (w.heap.size ≤ j ∧ j < w'.heap.size), A, t ++ [v], hmod.trans hm' (fun j _ h => h.elim (fun h => Or.inl ⟨h.1, hSS _ _ h.2⟩) (fun h => Or.inr (hY j h).1)), (Mod.trans (hmod0.mono (fun j _ h => h.elim (fun ⟨h1, k, h2, h3⟩ => Or.inl ⟨h1, k, (by rw [List.length_append]; omega), h3⟩) Or.inr)) hm' (fun j _ h => h.elim (fun h => Or.inl ⟨h.1, t.length, (by simp), h.2⟩) (fun h => Or.inr (hY j h).1))), hLn, hDn, ?_, fun j p hj hp => ?_, fun j p hj hp => ?_,
        (fun j h => h.elim (fun h => ⟨(hY j h).1, Nat.lt_of_lt_of_le (hY j h).2 hm'.size⟩) (fun h => ⟨Nat.le_trans hmod.size h.1, h.2⟩)), (fun j h => ⟨(hAb j h).1, Nat.lt_of_lt_of_le (hAb j h).2.1 hm'.size, fun hn => hn.elim (hAb j h).2.2 (fun hn => by have := (hAb j h).2.1; omega)⟩),
        ?_, fun p u hp hu => ?_, hA.other hna (fun _ h => h) (Or.inr ⟨v, rfl⟩) (fun q cc T hq hcs => hcs.mod hm' (fun h => h.elim (fun h => by have := (hAb q hq).1; omega) (hAb q hq).2.2)), hUn v⟩
      · rw [List.length_append]
        have := (List.getElem?_eq_some_iff.1 hk').1
        simp; omega
      · unfold upd
        by_cases e : p = i
        · rw [if_pos e]
        · rw [if_neg e]
          refine hk1 j p ?_ hp
          rw [List.length_append] at hj
          simp at hj
          by_cases e2 : j = t.length
          · subst e2
            rw [hk'] at hp
            exact absurd (Option.some.inj hp).symm e
          · omega
      · rw [List.length_append] at hj
        simp at hj
        unfold upd
        have e : ¬ p = i := fun e => by subst e; have := hGk j hp; omega
        rw [if_neg e]
        exact hk2 j p (by omega) hp
      · intro w'' h''
        rw [List.length_append]
        exact hnext w'' h''
      · by_cases e : p = i
        · subst e
          rw [List.getElem?_set_self', List.getElem?_eq_getElem hlt] at hu
          simp at hu
          subst hu
          exact hv _
        · rw [List.getElem?_set_ne (Ne.symm e)] at hu
          unfold upd at hp
          rw [if_neg e] at hp
          exact (AllQ.get l stable p).on _ _ _ _ _ _ _ (hV p u hp hu) hmz (fun j h => h.elim (fun h => h.elim (fun h => Or.inl (Or.inl h)) (fun h => Or.inr h.1)) (fun h => Or.inl (Or.inr h))) (Or.inr ⟨v, rfl⟩)
    rw [if_neg hci] at hst
    have hci' : c.contains i = false := by simpa using hci
    by_cases hma : ∃ r ∈ al, r.a = i
    · -- a new variable is made
      obtain ⟨r, hr, rfl⟩ := hma
      rw [fa r hr] at hst
      obtain ⟨m0, m1, m2, m5⟩ := hst
      obtain ⟨info, hi, hz⟩ := (show ∃ info, P.info? r.T = some info ∧ info.zero = some (.agg r.z.toArray) by
        cases hq : P.info? r.T with
        | none => rw [hq] at m2; cases m2
        | some i => rw [hq] at m2; exact ⟨i, rfl, m2⟩)
      have hrun : (execOp (putAll a0 ss vs).eval o).run P w = .ok (.value (.pointer (some ⟨w.heap.size, 0, none⟩))) (w.alloc (.cells r.z.toArray r.T)) := ex_alloc (P := P) (a := putAll a0 ss vs) (w := w) m1 hi hz
      have hmal : Mod (fun _ => False) w (w.alloc (.cells r.z.toArray r.T)) := (Mod.refl _ _).alloc _
      have hsza : (w.alloc (.cells r.z.toArray r.T)).heap.size = w.heap.size + 1 := by simp
      refine wpOp_step ho fun K' hK' => ?_
      rw [if_pos (hwant m0)]
      unfold Oper.wp
      rw [hrun]
      refine hK' _ _ ⟨vs.set r.a _, hput _, by simpa using hl, Y, fun j => A j ∨ j = w.heap.size, t, hmod.trans hmal (fun _ _ h => h.elim), (hmod0.trans hmal (fun _ _ h => h.elim)), hLn, hDn, hkl, fun j p hj hp => ?_, fun j p hj hp => ?_,
        (fun j h => ⟨(hY j h).1, by have := (hY j h).2; omega⟩), (fun j h => ?_), (fun w'' h => hC w'' (((Mod.refl _ w).alloc _).trans h (fun _ _ h => h))), fun p u hp hu => ?_, ⟨fun r' hr' hL' => ?_, fun r1 hr1 r2 hr2 hne h1 h2 => ?_⟩, hUn _⟩
      · unfold upd; rw [if_neg (hnc hci' j hp)]; exact hk1 j p hj hp
      · unfold upd; rw [if_neg (hnc hci' j hp)]; exact hk2 j p hj hp
      · rcases h with h | rfl
        · have := hAb j h
          exact ⟨this.1, by omega, this.2.2⟩
        · exact ⟨hmod.size, by omega, fun h => by have := (hY _ h).2; omega⟩
      · by_cases e : p = r.a
        · subst e; exact (hga r hr _ _ _ _).1
        · rw [List.getElem?_set_ne (Ne.symm e)] at hu
          unfold upd at hp
          rw [if_neg e] at hp
          exact (AllQ.get l stable p).on _ _ _ _ _ _ _ (hV p u hp hu) (hmal.mono fun _ _ h => h.elim) (fun j h => h.elim (fun h => Or.inl (Or.inl h)) (fun h => h.elim (fun h => Or.inl (Or.inr h)) (fun h => Or.inr (by omega)))) (Or.inl rfl)
      · have hs1 : upd L r.a r'.s = L r'.s := by unfold upd; rw [if_neg (fun e => hu3 r hr r' hr' e.symm)]
        by_cases e : r'.a = r.a
        · obtain rfl := hu1 r' hr' r hr e
          refine ⟨w.heap.size, by simp [hlt], Or.inr rfl, ?_, ?_⟩ <;> rw [hs1]
          all_goals
            have hls0 : L r'.s = false := by
              cases hls : L r'.s with
              | false => rfl
              | true =>
                have hos : ∃ o', ops[r'.s]? = some o' := by
                  cases hq : ops[r'.s]? with
                  | some o' => exact ⟨o', rfl⟩
                  | none => exact absurd hls (by rw [hLout r'.s (by simpa using hq)]; decide)
                obtain ⟨o', ho'⟩ := hos
                have h9 := Each.get _ 0 step r'.s o' (by simpa using ho')
                rw [Nat.zero_add] at h9
                unfold StepQ at h9
                rw [if_neg (by rw [(hac2 r' hr').2]; decide), fas r' hr', fs r' hr'] at h9
                obtain ⟨-, sa, y, -, -, -, hcl, -⟩ := h9
                have := clo_done hD _ _ (fun x hx => hD r'.s hls x hx) r'.a (by simpa using hcl)
                rw [hL] at this
                cases this
            rw [hls0]
          · exact Cs.new _ _ _
          · intro h; cases h
        · have hL2 : L r'.a = true := by unfold upd at hL'; rwa [if_neg e] at hL'
          obtain ⟨q, e1, e2, e3, e4⟩ := hA.at_ r' hr' hL2
          refine ⟨q, by rw [List.getElem?_set_ne (Ne.symm e)]; exact e1, Or.inl e2, ?_, ?_⟩ <;> rw [hs1]
          · exact e3.alloc _
          · exact e4
      · have key : ∀ r' ∈ al, r'.a ≠ r.a → L r'.a = true → vs[r'.a]? ≠ some (.pointer (some ⟨w.heap.size, 0, none⟩)) := by
          intro r' hr' hne' hL' he
          obtain ⟨q, e1, e2, e3, _⟩ := hA.at_ r' hr' hL'
          rw [e1] at he
          have := e3.lt
          cases he
          omega
        by_cases e1 : r1.a = r.a
        · have e2 : r2.a ≠ r.a := fun e => hne (e1.trans e.symm)
          rw [e1, List.getElem?_set_self hlt, List.getElem?_set_ne (Ne.symm e2)]
          unfold upd at h2
          rw [if_neg e2] at h2
          exact fun he => key r2 hr2 e2 h2 he.symm
        · by_cases e2 : r2.a = r.a
          · rw [e2, List.getElem?_set_self hlt, List.getElem?_set_ne (Ne.symm e1)]
            unfold upd at h1
            rw [if_neg e1] at h1
            exact key r1 hr1 e1 h1
          · rw [List.getElem?_set_ne (Ne.symm e1), List.getElem?_set_ne (Ne.symm e2)]
            unfold upd at h1 h2
            rw [if_neg e1] at h1
            rw [if_neg e2] at h2
            exact hA.ne r1 hr1 r2 hr2 hne h1 h2
    by_cases hsa : ∃ r ∈ al, r.s = i
    · -- a new variable is written
      obtain ⟨r, hr, rfl⟩ := hsa
      rw [fas r hr, fs r hr] at hst
      obtain ⟨m0, sa, y, hsl, hsn, hop, hcl, hval⟩ := hst
      have hLa : L r.a = true := clo_done hD _ _ (fun x hx => haf x hx) r.a (by simpa using hcl)
      obtain ⟨q, e1, e2, e3, _⟩ := hA.at_ r hr hLa
      rw [if_neg (by rw [hL]; decide)] at e3
      obtain ⟨hrk, hy, hlen, hone⟩ := hval (fun j => Y j ∨ A j) t (putAll a0 ss vs) w hmod hout hsz hpred hpre
      have hoa : ∃ oa, ops[r.a]? = some oa := by
        cases hq : ops[r.a]? with
        | some o' => exact ⟨o', rfl⟩
        | none => rw [hq] at hsl; cases hsl
      obtain ⟨oa, hoa⟩ := hoa
      have h9 := Each.get _ 0 step r.a oa (by simpa using hoa)
      rw [Nat.zero_add] at h9
      unfold StepQ at h9
      rw [if_neg (by rw [(hac2 r hr).1]; decide), fa r hr] at h9
      obtain ⟨-, -, -, hisz⟩ := h9
      have hev : (putAll a0 ss vs).eval (.tmp sa) = .pointer (some ⟨q, 0, none⟩) := by
        rw [hoa] at hsl
        obtain ⟨s2, hs2, hds2⟩ := okSlots_at hss hoa
        rcases hds2 with ⟨h1, h2⟩ | ⟨h1, h2⟩
        · have e3 : s2 = sa := Option.some.inj (h1.symm.trans hsl)
          subst e3
          exact eval_in a0 ss vs r.a s2 _ hnd hl hs2 (by rw [hn]; exact h2) e1
        · have : (none : Option Nat) = some sa := h1.symm.trans hsl
          cases this
      have hrun := ex_storeA (P := P) hop e3 (off := 0) (vs := r.c (t.take r.k)) (by rw [hisz, hlen]) hone (by simp [hlen]) hev hy
      rw [lay_whole _ _ (by simp [hlen])] at hrun
      have hmst : Mod (fun k => k = q) w (w.setRow q (r.c (t.take r.k)).toArray) := setRow_Mod
      have hqb := hAb q e2
      have hmy : Mod (fun j => w0.heap.size ≤ j ∧ ¬ Y j) w (w.setRow q (r.c (t.take r.k)).toArray) := hmst.mono fun k _ h => by subst h; exact ⟨hqb.1, hqb.2.2⟩
      refine wpOp_step ho fun K' hK' => ?_
      rw [if_pos (hwant m0)]
      unfold Oper.wp
      rw [hrun]
      refine hK' _ _ ⟨vs.set r.s _, hput _, by simpa using hl, Y, A, t, hmod.trans hmy (fun j _ h => Or.inr h.1), (hmod0.trans hmy (fun j _ h => Or.inr h.1)), hLn, hDn, hkl, fun j p hj hp => ?_, fun j p hj hp => ?_,
        (fun j h => ⟨(hY j h).1, Nat.lt_of_lt_of_le (hY j h).2 hmst.size⟩), (fun j h => ⟨(hAb j h).1, Nat.lt_of_lt_of_le (hAb j h).2.1 hmst.size, (hAb j h).2.2⟩), (fun w'' h => hC w'' (hmy.trans h (fun _ _ h => h))), fun p u hp hu => ?_, ⟨fun r' hr' hL' => ?_, fun r1 hr1 r2 hr2 hne h1 h2 => ?_⟩, hUn _⟩
      · unfold upd; rw [if_neg (hnc hci' j hp)]; exact hk1 j p hj hp
      · unfold upd; rw [if_neg (hnc hci' j hp)]; exact hk2 j p hj hp
      · by_cases e : p = r.s
        · subst e; exact (hga r hr _ _ _ _).2
        · rw [List.getElem?_set_ne (Ne.symm e)] at hu
          unfold upd at hp
          rw [if_neg e] at hp
          exact (AllQ.get l stable p).on _ _ _ _ _ _ _ (hV p u hp hu) (hmst.mono fun k _ h => by subst h; exact Or.inr ⟨hqb.1, Or.inr e2⟩) (fun j h => Or.inl h) (Or.inl rfl)
      · have ha1 : r'.a ≠ r.s := hu3 r' hr' r hr
        have hL2 : L r'.a = true := by unfold upd at hL'; rwa [if_neg ha1] at hL'
        obtain ⟨q', e1', e2', e3', e4'⟩ := hA.at_ r' hr' hL2
        refine ⟨q', by rw [List.getElem?_set_ne (Ne.symm ha1)]; exact e1', e2', ?_, ?_⟩
        · by_cases e : r'.s = r.s
          · obtain rfl := hu2 r' hr' r hr e
            rw [e1] at e1'
            cases e1'
            unfold upd
            rw [if_pos rfl, if_pos rfl]
            exact setRow_Cs e3
          · have : upd L r.s r'.s = L r'.s := by unfold upd; rw [if_neg e]
            rw [this]
            have hq : q' ≠ q := by
              rintro rfl
              refine hA.ne r' hr' r hr (fun ea => ?_) hL2 hLa (by rw [e1', e1])
              obtain rfl := hu1 r' hr' r hr ea
              exact e rfl
            exact e3'.mod hmst hq
        · intro h
          by_cases e : r'.s = r.s
          · obtain rfl := hu2 r' hr' r hr e
            exact hrk
          · unfold upd at h
            rw [if_neg e] at h
            exact e4' h
      · have a1 : r1.a ≠ r.s := hu3 r1 hr1 r hr
        have a2 : r2.a ≠ r.s := hu3 r2 hr2 r hr
        rw [List.getElem?_set_ne (Ne.symm a1), List.getElem?_set_ne (Ne.symm a2)]
        unfold upd at h1 h2
        rw [if_neg a1] at h1
        rw [if_neg a2] at h2
        exact hA.ne r1 hr1 r2 hr2 hne h1 h2
    -- beside the chain
    have na : al.find? (fun r => r.a == i) = none := by
      rw [List.find?_eq_none]
      intro r hr h
      exact hma ⟨r, hr, by simpa using h⟩
    have ns : al.find? (fun r => r.s == i) = none := by
      rw [List.find?_eq_none]
      intro r hr h
      exact hsa ⟨r, hr, by simpa using h⟩
    rw [na, ns] at hst
    refine wpOp_mono ?_ (hst (fun j => Y j ∨ A j) t (putAll a0 ss vs) w hZb hmod hmod0 hout hsz hpred hub hpre)
    rintro a' w' ⟨v, rfl, he, hv⟩
    have hmy : Mod (fun j => w0.heap.size ≤ j ∧ ¬ Y j) w w' := he.mod (fun j h => Or.inl h)
    refine ⟨vs.set i v, hput v, by simpa using hl, Y, A, t, hmod.trans hmy (fun j _ h => Or.inr h.1), (hmod0.trans hmy (fun j _ h => Or.inr h.1)), hLn, hDn, hkl, fun j p hj hp => ?_, fun j p hj hp => ?_,
      (fun j h => ⟨(hY j h).1, Nat.lt_of_lt_of_le (hY j h).2 he.size⟩), (fun j h => ⟨(hAb j h).1, Nat.lt_of_lt_of_le (hAb j h).2.1 he.size, (hAb j h).2.2⟩), (fun w'' h => hC w'' (hmy.trans h (fun _ _ h => h))), fun p u hp hu => ?_,
      hA.other (fun r hr => ⟨fun e => hma ⟨r, hr, e⟩, fun e => hsa ⟨r, hr, e⟩⟩) (fun _ h => h) (Or.inl rfl) (fun q cc T hq hcs => ?_), hUn v⟩
    · unfold upd; rw [if_neg (hnc hci' j hp)]; exact hk1 j p hj hp
    · unfold upd; rw [if_neg (hnc hci' j hp)]; exact hk2 j p hj hp
    · by_cases e : p = i
      · subst e
        rw [List.getElem?_set_self', List.getElem?_eq_getElem hlt] at hu
        simp at hu
        subst hu
        exact hv
      · rw [List.getElem?_set_ne (Ne.symm e)] at hu
        unfold upd at hp
        rw [if_neg e] at hp
        exact (AllQ.get l stable p).env _ _ _ _ _ (hV p u hp hu) he
    · rcases he.block q hcs.lt with h | ⟨-, h, -⟩
      · exact h.trans hcs
      · exact absurd (Or.inr hq) h
  · rintro L vs w hL hl ⟨Y, A, t, hmod, hmod0, hLout, hD, hkl, hk1, hk2, hY, hAb, hC, hV, hA, hU⟩
    have hk : t.length = c.length := by
      rcases Nat.lt_or_ge t.length c.length with h | h
      · have h1 := hk2 t.length c[t.length] (Nat.le_refl _) (List.getElem?_eq_getElem h)
        rw [hL c[t.length] (by simpa using List.all_eq_true.1 hcs _ (List.getElem_mem h))] at h1
        cases h1
      · omega
    have hsl : ss.length = ops.size := by
      unfold okSlots at hss
      rw [Bool.and_eq_true] at hss
      simpa using hss.1
    have h0 := hC w (Mod.refl _ _)
    rw [List.drop_of_length_le (by omega)] at h0
    refine h0 vs hl ⟨fun j => Y j ∨ A j, (fun j h => Or.inl h), (fun j h => h.elim (hY j) (fun h => ⟨(hAb j h).1, (hAb j h).2.1⟩)), fun p v hv => hV p v (hL p (by have := (List.getElem?_eq_some_iff.1 hv).1; omega)) hv⟩ (fun r hr => ?_) (fun r hr r' hr' hne => hA.ne r hr r' hr' hne (hL _ (hals r hr).1) (hL _ (hals r' hr').1))
    obtain ⟨q, e1, e2, e3, _⟩ := hA.at_ r hr (hL _ (hals r hr).1)
    rw [if_pos (hL _ (hals r hr).2)] at e3
    exact ⟨q, e1, (hAb q e2).1, (hAb q e2).2.2, e3⟩

theorem Mod.two {S S' : Nat → Prop} {a b c : World} (h : Mod S a b) (k : Mod S' b c) : Mod (fun j => S j ∨ S' j) a c :=
  ⟨k.os.trans h.os, k.tape.trans h.tape, k.output.trans h.output, Nat.le_trans h.size k.size, fun i hi hn => (k.block i (Nat.lt_of_lt_of_le hi h.size) (fun hS => hn (Or.inr hS))).trans (h.block i hi (fun hS => hn (Or.inl hS)))⟩
theorem Mod.after {S : Nat → Prop} {a b c : World} (h : Mod (fun _ => False) a b) (k : Mod S b c) : Mod S a c := (h.mono (fun _ _ h => h.elim)).trans k (fun _ _ h => h)
variable {SS : Nat → Nat → Prop} {k : Nat} {a0 : Act} {w0 : World} {n : Nat} {ss : List Nat} {l : List QPred} {al : List QRow} {i : Nat} {c : List Nat} {o : Oper} {a : Act} {v : Value}
theorem QChain.nil (h : ∀ vs, vs.length = ss.length → (∃ Z : Nat → Prop, (∀ j, Y j → Z j) ∧ (∀ j, Z j → B ≤ j ∧ j < w.heap.size) ∧ ∀ p v, vs[p]? = some v → (l.getD p qa) Z t v w) →
      (∀ r ∈ al, ∃ q, vs[r.a]? = some (.pointer (some ⟨q, 0, none⟩)) ∧ B ≤ q ∧ ¬ Y q ∧ Cs w q (r.c (t.take r.k)).toArray r.T) → (∀ r ∈ al, ∀ r' ∈ al, r.a ≠ r'.a → vs[r.a]? ≠ vs[r'.a]?) → Q .normal (putAll a0 ss vs) w) : QChain P ops Q a0 n ss B S0 SS l al [] k Y t w := h
/-- what one of the chain leaves -/
def QPost (P : Program) (ops : Array Oper) (Q : Exit → Act → World → Prop) (a0 : Act) (n : Nat) (ss : List Nat) (B : Nat) (S0 : Nat → Prop) (SS : Nat → Nat → Prop) (l : List QPred) (al : List QRow) (i : Nat) (c : List Nat) (k : Nat) (Y : Nat → Prop) (t : List Value) (w : World) (v : Value) (w' : World) : Prop :=
  Mod (fun j => (j < B ∧ SS k j) ∨ Y j) w w' ∧ (∀ Z, (l.getD i qa) Z (t ++ [v]) v w') ∧
    ∀ w'', Mod (fun j => B ≤ j ∧ ¬ (Y j ∨ (w.heap.size ≤ j ∧ j < w'.heap.size))) w' w'' → QChain P ops Q a0 n ss B S0 SS l al c (k + 1) (fun j => Y j ∨ (w.heap.size ≤ j ∧ j < w'.heap.size)) (t ++ [v]) w''
theorem QChain.cons (ho : ops[i]? = some o) (h : ∀ Z a, (∀ j, Y j → Z j) → (∀ j, Z j → B ≤ j ∧ j < w.heap.size) → (∀ t, t ∉ ss → a.eval (.tmp t) = a0.eval (.tmp t)) → (∀ s, s < n → s < a.tmps.size) →
      (∀ e ∈ o.after, Region.binds .any e = true → ∀ s, (ops[e.on]?).bind (·.dst) = some s → (l.getD e.on qa) Z t (a.eval (.tmp s)) w) →
      (∀ j s, (ops[j]?).bind (·.dst) = some s → (clo ops ops.size (afterOf ops j)).contains i = true → a.eval (.tmp s) = a0.eval (.tmp s)) → 
      wpOp P ops Q i (fun a' w' => ∃ v, a' = a.put o.dst v ∧ QPost P ops Q a0 n ss B S0 SS l al i c k Y t w v w') a w) : QChain P ops Q a0 n ss B S0 SS l al (i :: c) k Y t w := by
  intro Z a h1 h2 h3 h4 h5 h6
  refine wpOp_mono ?_ (h Z a h1 h2 h3 h4 (fun e he hb s hs => h5 o ho e he hb s hs) h6)
  rintro a' w' ⟨v, h7, h8, h9, h10⟩
  exact ⟨o, v, ho, h7, h8, h9, h10⟩
theorem stepq_chain (h : c.contains i = true) : StepQ P ops Q a0 w0 n ss S0 SS l c al i o := by unfold StepQ; rw [if_pos h]; trivial
theorem stepq_make (h : c.contains i = false) {r : QRow} (hr : al.find? (fun r => r.a == i) = some r) (hm : MakesQ P r o) : StepQ P ops Q a0 w0 n ss S0 SS l c al i o := by
  unfold StepQ; rw [if_neg (by rw [h]; decide), hr]; exact hm
theorem stepq_write (h : c.contains i = false) (h0 : al.find? (fun r => r.a == i) = none) {r : QRow} (hr : al.find? (fun r => r.s == i) = some r) (hm : WritesQ ops a0 w0 n ss S0 l r i o) : StepQ P ops Q a0 w0 n ss S0 SS l c al i o := by
  unfold StepQ; rw [if_neg (by rw [h]; decide), h0, hr]; exact hm
theorem stepq_env (h : c.contains i = false) (h0 : al.find? (fun r => r.a == i) = none) (h1 : al.find? (fun r => r.s == i) = none)
    (hs : ∀ (Z : Nat → Prop) t a w, (∀ j, Z j → w0.heap.size ≤ j ∧ j < w.heap.size) → Mod (fun j => (j < w0.heap.size ∧ S0 j) ∨ w0.heap.size ≤ j) w0 w → Mod (fun j => (j < w0.heap.size ∧ ∃ k, k < t.length ∧ SS k j) ∨ w0.heap.size ≤ j) w0 w → (∀ t, t ∉ ss → a.eval (.tmp t) = a0.eval (.tmp t)) → (∀ s, s < n → s < a.tmps.size) →
        (∀ e ∈ o.after, Region.binds .any e = true → ∀ s, (ops[e.on]?).bind (·.dst) = some s → (l.getD e.on qa) Z t (a.eval (.tmp s)) w) → (∀ k q, c[k]? = some q → (clo ops ops.size (afterOf ops q)).contains i = true → t.length ≤ k) → (∀ j s, (ops[j]?).bind (·.dst) = some s → (clo ops ops.size (afterOf ops j)).contains i = true → a.eval (.tmp s) = a0.eval (.tmp s)) → 
        wpOp P ops Q i (QJ w0.heap.size l Z i o t a w) a w) : StepQ P ops Q a0 w0 n ss S0 SS l c al i o := by
  unfold StepQ; rw [if_neg (by rw [h]; decide), h0, h1]; exact hs
theorem qe_run (ho : ops[i]? = some o) (hw : Region.wanted o (yielded ops a.tmps) = true) (hr : (execOp a.eval o).run P w = .ok (.value v) w') (hm : QE B Z w w') (hv : (l.getD i qa) Z t v w') : wpOp P ops Q i (QJ B l Z i o t a w) a w := by
  refine wpOp_step ho fun K' hK' => ?_
  rw [if_pos hw]
  unfold Oper.wp
  rw [hr]
  exact hK' _ _ ⟨v, rfl, hm, hv⟩
theorem qe_skip (ho : ops[i]? = some o) (hw : Region.wanted o (yielded ops a.tmps) = false) (hv : (l.getD i qa) Z t undef w) : wpOp P ops Q i (QJ B l Z i o t a w) a w := by
  refine wpOp_step ho fun K' hK' => ?_
  rw [if_neg (by rw [hw]; decide)]
  exact hK' _ _ ⟨undef, rfl, QE.refl, hv⟩
theorem qe_call (ho : ops[i]? = some o) (hw : Region.wanted o (yielded ops a.tmps) = true) {f : FuncId} {args : Array Value} {post : Ending → World → Prop} (hr : (execOp a.eval o).run P w = .ok (.enter f args) w) (hcl : Calls P f args w post)
    (hp : ∀ e w', post e w' → ∃ v, e = .returned v ∧ QE B Z w w' ∧ (l.getD i qa) Z t v w') : wpOp P ops Q i (QJ B l Z i o t a w) a w := by
  refine wpOp_step ho fun K' hK' => ?_
  rw [if_pos hw]
  unfold Oper.wp
  rw [hr]
  exact hcl.mono fun e w' he => by
    obtain ⟨v, rfl, h1, h2⟩ := hp e w' he
    exact hK' _ _ ⟨v, rfl, h1, h2⟩
/-- an operation that is done only where a test says so -/
theorem qe_guard {b : Bool} (ho : ops[i]? = some o) (hw : Region.wanted o (yielded ops a.tmps) = b) {p : QPred} (hp : l.getD i qa = qc b p)
    (h1 : b = true → ∀ l', l'.getD i qa = p → wpOp P ops Q i (QJ B l' Z i o t a w) a w) : wpOp P ops Q i (QJ B l Z i o t a w) a w := by
  cases b with
  | false => exact qe_skip ho hw (by rw [hp]; exact ⟨(fun h => by cases h), fun _ => rfl⟩)
  | true =>
    have h2 := h1 rfl (List.replicate i qa ++ [p]) (by simp [List.getD])
    refine wpOp_mono ?_ h2
    rintro a' w' ⟨v, h3, h4, h5⟩
    refine ⟨v, h3, h4, ?_⟩
    rw [hp]
    refine ⟨fun _ => ?_, fun h => by cases h⟩
    simpa [List.getD] using h5
theorem qc_run {KQ : Value → World → Prop} (ho : ops[i]? = some o) (hw : Region.wanted o (yielded ops a.tmps) = true) (hr : (execOp a.eval o).run P w = .ok (.value v) w') (h : KQ v w') : wpOp P ops Q i (fun a' w' => ∃ v, a' = a.put o.dst v ∧ KQ v w') a w := by
  refine wpOp_step ho fun K' hK' => ?_
  rw [if_pos hw]
  unfold Oper.wp
  rw [hr]
  exact hK' _ _ ⟨v, rfl, h⟩
theorem qc_turn {KQ : Value → World → Prop} (ho : ops[i]? = some o) (hw : Region.wanted o (yielded ops a.tmps) = true) (hr : (execOp a.eval o).run P w = .ok .skip w') (h : KQ undef w') : wpOp P ops Q i (fun a' w' => ∃ v, a' = a.put o.dst v ∧ KQ v w') a w := by
  refine wpOp_step ho fun K' hK' => ?_
  rw [if_pos hw]
  unfold Oper.wp
  rw [hr]
  exact hK' _ _ ⟨undef, rfl, h⟩
theorem qc_call {KQ : Value → World → Prop} (ho : ops[i]? = some o) (hw : Region.wanted o (yielded ops a.tmps) = true) {f : FuncId} {args : Array Value} {post : Ending → World → Prop} (hr : (execOp a.eval o).run P w = .ok (.enter f args) w) (hcl : Calls P f args w post)
    (hp : ∀ e w', post e w' → ∃ v, e = .returned v ∧ KQ v w') : wpOp P ops Q i (fun a' w' => ∃ v, a' = a.put o.dst v ∧ KQ v w') a w := by
  refine wpOp_step ho fun K' hK' => ?_
  rw [if_pos hw]
  unfold Oper.wp
  rw [hr]
  exact hcl.mono fun e w' he => by
    obtain ⟨v, rfl, h1⟩ := hp e w' he
    exact hK' _ _ ⟨v, rfl, h1⟩
/-- one of the chain stores -/
theorem qc_store {KQ : Value → World → Prop} {ty : TypeId} {x y : Operand} (ho : ops[i]? = some o) (hw : Region.wanted o (yielded ops a.tmps) = true) (hop : o.op = .store ty x y) {g off : Nat} {cs : Array Value} {e : TypeId} (hc : Cs w g cs e) {vs : List Value} (hi : (P.info? ty).map (·.size) = some vs.length) (h1 : ∀ u ∈ vs, u.oneCell' = true)
    (hfit : off + vs.length ≤ cs.size) (hx : a.eval x = .pointer (some ⟨g, off, none⟩)) (hy : (a.eval y).cells = vs.toArray) (h : ∀ w', Cs w' g (lay cs off vs) e → Mod (fun k => k = g) w w' → KQ undef w') : wpOp P ops Q i (fun a' w' => ∃ v, a' = a.put o.dst v ∧ KQ v w') a w :=
  qc_turn ho hw (ex_storeA hop hc hi h1 hfit hx hy) (h _ (setRow_Cs hc) setRow_Mod)
theorem Cs_newN (w : World) {k : Nat} (c : Array Value) (T : TypeId) (hk : w.heap.size = k) : Cs (w.alloc (.cells c T)) k c T := by subst hk; exact Cs.new _ _ _
/-- a literal's row is made -/
theorem ql_new {T8 : TypeId} {C : Array Value} (hB : B ≤ w.heap.size) (hZ : ∀ j, Z j → B ≤ j ∧ j < w.heap.size) : ql B T8 C Z t (.slice (some ⟨w.heap.size, 0, none⟩) C.size C.size) (w.alloc (.cells C T8)) :=
  ⟨_, rfl, hB, (fun h => Nat.lt_irrefl _ (hZ _ h).2), (0, 0), heap_alloc_new _ _⟩
/-- a literal's row is marked -/
theorem qe_mark {ts T8 : TypeId} {x : Operand} {C : Array Value} (hop : ops[i]? = some o) (hw : Region.wanted o (yielded ops a.tmps) = true) (ho : o.op = .convert ts ts x) (hu : P.underlying ts = some (.slice T8)) (he : P.underlying T8 = some (.int .u8))
    (hx : ql B T8 C Z t (a.eval x) w) (hv : ∀ v w', ql B T8 C Z t v w' → (l.getD i qa) Z t v w') : wpOp P ops Q i (QJ B l Z i o t a w) a w := by
  obtain ⟨g, hx, hB, hZ, m, hb⟩ := hx
  have hlt := (Array.getElem?_eq_some_iff.1 hb).1
  have hsh : w.shape? g = some (T8, C.size) := by unfold World.shape?; rw [hb]
  obtain ⟨m', hblk⟩ : ∃ m', (w.freeze ⟨g, C.size, none⟩ 1).heap[g]? = some (.cells C T8 m') := by
    unfold World.freeze
    rw [if_neg (by decide)]
    rw [Array.getElem?_modify, if_pos rfl, hb]
    exact ⟨_, rfl⟩
  refine qe_run hop hw (v := .slice (some ⟨g, 0, none⟩) C.size C.size) (w' := w.freeze ⟨g, C.size, none⟩ 1) ?_ ⟨rfl, rfl, rfl, by unfold World.freeze; rw [if_neg (by decide)]; simp, fun k hk => ?_⟩ (hv _ _ ⟨g, rfl, hB, hZ, m', hblk⟩)
  · unfold execOp
    simp [ho, hx, convert, run_underlying hu, run_underlying he, markStringish, hsh]
  · by_cases e : k = g
    · subst e
      exact Or.inr ⟨hB, hZ, C, T8, m, m', hb, hblk⟩
    · refine Or.inl ?_
      unfold World.freeze
      rw [if_neg (by decide)]
      rw [Array.getElem?_modify, if_neg (fun h => e h.symm)]
theorem and_val {A B' : Bool} {u : Value} (h : A = true → u = .bool B') : (if A = true then u else .bool false) = .bool (A && B') := by
  cases A with
  | true => simp [h rfl]
  | false => rfl
end
end Go.Gv

/- Things of many kinds, as cells (Rep); slices of them, read (RdS) or appended to (OwS). Pieces of a block's cells. No program here. -/
set_option linter.unusedVariables false
namespace Go.Gv
open Go Go.RowKit

section
variable {w : World} {g : Nat} {T : TypeId} {pre mid post cs M : List Value} {off k m : Nat} {u : Value}
theorem Cs.lit1 (h : Cs w g cs.toArray T) (hu : cs[off]? = some u) : w.cell? ⟨g, off, none⟩ = some u := by
  rw [h.cell]; simpa using hu
end

theorem Rd.keepc {s : Nat} {w w' : World} {v : Value} {n : Nat} {cs : List Value} (h : Rd s w v n cs) (hk : 0 < n → ∀ g, v.ownBlock = some g → ∀ p u, p.block = g → w.cell? p = some u → w'.cell? p = some u) : Rd s w' v n cs := by
  obtain ⟨hl, ao, cap, rfl, h1, h2, h3, h4⟩ := h
  refine ⟨hl, ao, cap, rfl, h1, h2, h3, fun x hx j u hu => ⟨(h4 x hx j u hu).1, ?_⟩⟩
  have hc := (h4 x hx j u hu).2
  have hn : 0 < n := by
    rcases Nat.eq_zero_or_pos n with rfl | h
    · have : cs = [] := List.eq_nil_of_length_eq_zero (by simpa using hl)
      subst this; simp at hu
    · exact h
  have hb : (x.add j).block = x.block := by unfold Addr.add; split <;> rfl
  subst hx
  exact hk hn x.block rfl _ _ hb hc
theorem Rd.lt {s : Nat} {w : World} {v : Value} {n : Nat} {cs : List Value} (h : Rd s w v n cs) (hs : 0 < s) (hn : 0 < n) {g : Nat} (hg : v.ownBlock = some g) : g < w.heap.size := by
  rcases h.form hs with ⟨h0, _⟩ | ⟨g', o, cap, _, rfl, _, _, hl, hc⟩
  · omega
  · simp [Value.ownBlock] at hg
    subst hg
    have hpos : 0 < cs.length := by rw [hl]; exact Nat.mul_pos hn hs
    exact World.block_lt_of_cell? _ _ (hc 0 _ (List.getElem?_eq_getElem hpos))

/-- a kind of things: how many cells one has; which cells are one, in a world; what it holds lies in blocks of R -/
structure Rep (α : Type) where
  sz : Nat
  pos : 0 < sz
  rd : (Nat → Prop) → World → List Value → α → Prop
  len : ∀ {R w cs a}, rd R w cs a → cs.length = sz
  one : ∀ {R w cs a}, rd R w cs a → ∀ u ∈ cs, u.oneCell' = true
  keep : ∀ {R w w' cs a}, rd R w cs a → (∀ p u, R p.block → w.cell? p = some u → w'.cell? p = some u) → rd R w' cs a
  wid : ∀ {R R' : Nat → Prop} {w cs a}, rd R w cs a → (∀ k, R k → R' k) → rd R' w cs a
  tight : ∀ {R w cs a}, rd R w cs a → rd (fun k => R k ∧ k < w.heap.size) w cs a
namespace Rep
variable {α : Type} {A : Rep α} {R R' S : Nat → Prop} {w w' : World} {cs : List Value} {a : α}
theorem mod (h : A.rd R w cs a) (hm : Mod S w w') (hs : ∀ k, R k → S k → False) : A.rd R w' cs a := A.keep h fun p u hp hc => hm.cell hc (fun hS => hs _ hp hS)
end Rep
theorem Rep.rd.mod {α : Type} {A : Rep α} {R S : Nat → Prop} {w w' : World} {cs : List Value} {a : α} (h : A.rd R w cs a) (hm : Mod S w w') (hs : ∀ k, R k → S k → False) : A.rd R w' cs a := Rep.mod h hm hs
theorem Rep.rd.widen {α : Type} {A : Rep α} {R R' : Nat → Prop} {w : World} {cs : List Value} {a : α} (h : A.rd R w cs a) (hs : ∀ k, R k → R' k) : A.rd R' w cs a := A.wid h hs
/-- cells in the middle of a block -/
def CellsAt (R : Nat → Prop) (w : World) (g off : Nat) (cs : List Value) : Prop := R g ∧ ∀ j u, cs[j]? = some u → w.cell? ⟨g, off + j, none⟩ = some u
theorem CellsAt.mod {R S : Nat → Prop} {w w' : World} {g off : Nat} {cs : List Value} (h : CellsAt R w g off cs) (hm : Mod S w w') (hs : ∀ k, R k → S k → False) : CellsAt R w' g off cs := ⟨h.1, fun j u hu => hm.cell (h.2 j u hu) (hs _ h.1)⟩
/-- a flat kind: its cells say it all -/
def Rep.flat {α : Type} (sz : Nat) (hp : 0 < sz) (cells : α → List Value) (ok : α → Prop) (hl : ∀ a, ok a → (cells a).length = sz) (h1 : ∀ a, ok a → ∀ u ∈ cells a, u.oneCell' = true) : Rep α where
  sz := sz
  pos := hp
  rd _ _ cs a := cs = cells a ∧ ok a
  len h := by rw [h.1]; exact hl _ h.2
  one h := by rw [h.1]; exact h1 _ h.2
  keep h _ := h
  wid h _ := h
  tight h := h

/-- a slice of things, read -/
def RdS {α : Type} (A : Rep α) (R : Nat → Prop) (w : World) (v : Value) (l : List α) : Prop :=
  ∃ css : List (List Value), css.length = l.length ∧ (∀ (i : Nat) cs a, css[i]? = some cs → l[i]? = some a → A.rd R w cs a) ∧ Rd A.sz w v l.length css.flatten ∧ (0 < l.length → ∀ g, v.ownBlock = some g → R g)
/-- a slice of things that may be appended to: its own block is one of R, what its things hold lies in others, of E -/
def OwS {α : Type} (A : Rep α) (e : TypeId) (R E : Nat → Prop) (w : World) (v : Value) (l : List α) : Prop :=
  ∃ css : List (List Value), css.length = l.length ∧ (∀ (i : Nat) cs a, css[i]? = some cs → l[i]? = some a → A.rd (fun k => E k ∧ v.ownBlock ≠ some k) w cs a) ∧ Own (fun u => u.oneCell' = true) e A.sz w v l.length css.flatten ∧ ∀ g, v.ownBlock = some g → R g
section
variable {α : Type} {A : Rep α} {e : TypeId} {R R' S : Nat → Prop} {w w' : World} {v : Value} {l : List α}
theorem flat_get {css : List (List Value)} {s : Nat} (h : ∀ cs ∈ css, cs.length = s) : ∀ (i : Nat) (cs : List Value), css[i]? = some cs → ∀ j u, cs[j]? = some u → css.flatten[i * s + j]? = some u := by
  induction css with
  | nil => intro i cs hi; simp at hi
  | cons c r ih =>
    intro i cs hi j u hu
    have hc : c.length = s := h c (by simp)
    cases i with
    | zero =>
      simp at hi
      subst hi
      rw [List.flatten_cons, Nat.zero_mul, Nat.zero_add, List.getElem?_append_left (List.getElem?_eq_some_iff.1 hu).1]
      exact hu
    | succ i =>
      simp at hi
      rw [List.flatten_cons, List.getElem?_append_right (by rw [hc, Nat.succ_mul]; omega), hc, show (i + 1) * s + j - s = i * s + j by rw [Nat.succ_mul]; omega]
      exact ih (fun x hx => h x (by simp [hx])) i cs hi j u hu
theorem flat_len {css : List (List Value)} {s : Nat} (h : ∀ cs ∈ css, cs.length = s) : css.flatten.length = css.length * s := by
  induction css with
  | nil => simp
  | cons c r ih => rw [List.flatten_cons, List.length_append, ih (fun x hx => h x (by simp [hx])), h c (by simp), List.length_cons, Nat.succ_mul]; omega
theorem css_len {css : List (List Value)} {P : List Value → α → Prop} (hl : css.length = l.length) (hP : ∀ (i : Nat) cs a, css[i]? = some cs → l[i]? = some a → P cs a) {s : Nat} (hs : ∀ cs a, P cs a → cs.length = s) : ∀ cs ∈ css, cs.length = s := by
  intro cs hcs
  obtain ⟨i, hi⟩ := List.getElem?_of_mem hcs
  have h1 := (List.getElem?_eq_some_iff.1 hi).1
  exact hs cs _ (hP i cs l[i] hi (List.getElem?_eq_getElem (by omega)))
theorem RdS.shape (h : RdS A R w v l) : ∃ ao cap, v = .slice ao l.length cap := by
  obtain ⟨css, _, _, ⟨_, ao, cap, e, _⟩, _⟩ := h; exact ⟨ao, cap, e⟩
theorem RdS.keep (h : RdS A R w v l) (hk : ∀ p u, R p.block → w.cell? p = some u → w'.cell? p = some u) : RdS A R w' v l := by
  obtain ⟨css, h1, h2, h3, h4⟩ := h
  exact ⟨css, h1, fun i cs a hi hl => A.keep (h2 i cs a hi hl) hk, h3.keepc fun h0 g hg p u hp hc => hk p u (hp ▸ h4 h0 g hg) hc, h4⟩
theorem RdS.mod (h : RdS A R w v l) (hm : Mod S w w') (hs : ∀ k, R k → S k → False) : RdS A R w' v l := h.keep fun p u hp hc => hm.cell hc (fun hS => hs _ hp hS)
theorem RdS.widen (h : RdS A R w v l) (hs : ∀ k, R k → R' k) : RdS A R' w v l := by
  obtain ⟨css, h1, h2, h3, h4⟩ := h
  exact ⟨css, h1, fun i cs a hi hl => A.wid (h2 i cs a hi hl) hs, h3, fun h0 g hg => hs g (h4 h0 g hg)⟩
theorem RdS.tight (h : RdS A R w v l) : RdS A (fun k => R k ∧ k < w.heap.size) w v l := by
  obtain ⟨css, h1, h2, h3, h4⟩ := h
  exact ⟨css, h1, fun i cs a hi hl => A.tight (h2 i cs a hi hl), h3, fun h0 g hg => ⟨h4 h0 g hg, h3.lt A.pos h0 hg⟩⟩
theorem RdS.nil (A : Rep α) (R : Nat → Prop) (w : World) : RdS A R w (.slice none 0 0) [] := ⟨[], rfl, (fun i cs a h => by simp at h), Rd.nil _ _, fun h => by simp at h⟩
/-- its i-th thing's cells -/
theorem RdS.at {ao : Option Addr} {n cap : Nat} (h : RdS A R w (.slice ao n cap) l) {i : Nat} (hi : i < l.length) : ∃ g o cs, ao = some ⟨g, o, none⟩ ∧ R g ∧ A.rd R w cs l[i] ∧ ∀ j u, cs[j]? = some u → w.cell? ⟨g, o + i * A.sz + j, none⟩ = some u := by
  obtain ⟨css, h1, h2, h3, h4⟩ := h
  rcases h3.form A.pos with ⟨h0, _⟩ | ⟨g, o, cap', h0, e, _, _, hl, hc⟩
  · omega
  · simp only [Value.slice.injEq] at e
    obtain ⟨rfl, rfl, rfl⟩ := e
    have hi2 : i < css.length := by omega
    refine ⟨g, o, css[i], rfl, h4 h0 g rfl, h2 i _ _ (List.getElem?_eq_getElem hi2) (List.getElem?_eq_getElem hi), fun j u hu => ?_⟩
    have := flat_get (css_len h1 h2 (fun cs a h => A.len h)) i _ (List.getElem?_eq_getElem hi2) j u hu
    rw [Nat.add_assoc]
    exact hc _ _ this
/-- its first things -/
theorem RdS.upto {ao : Option Addr} {n cap : Nat} (h : RdS A R w (.slice ao n cap) l) (k : Nat) (hk : k ≤ l.length) : RdS A R w (.slice ao k cap) (l.take k) := by
  obtain ⟨css, h1, h2, ⟨hl, ao', cap', e, g1, g2, g3, g4⟩, h4⟩ := h
  simp only [Value.slice.injEq] at e
  obtain ⟨rfl, rfl, rfl⟩ := e
  have hcl := css_len h1 h2 (fun cs a h => A.len h)
  have el : (l.take k).length = k := by simp; omega
  have ef : (css.take k).flatten = css.flatten.take (k * A.sz) := by
    have h5 : css.flatten = (css.take k).flatten ++ (css.drop k).flatten := by rw [← List.flatten_append, List.take_append_drop]
    have h6 : (css.take k).flatten.length = k * A.sz := by rw [flat_len (fun x hx => hcl x (List.mem_of_mem_take hx))]; congr 1; simp; omega
    rw [h5, ← h6, List.take_left]
  refine ⟨css.take k, by simp; omega, fun i cs a hi ha => ?_, ?_, fun h0 g hg => h4 (by simp at h0; omega) g (by cases ao <;> exact hg)⟩
  · rw [List.getElem?_take] at hi ha
    split at hi
    · rename_i hik
      rw [if_pos hik] at ha
      exact h2 i cs a hi ha
    · cases hi
  · rw [el, ef]
    refine ⟨?_, ao, cap, rfl, by omega, g2, g3, fun x hx j u hu => g4 x hx j u ?_⟩
    · rw [List.length_take, flat_len hcl, h1]
      exact Nat.min_eq_left (Nat.mul_le_mul_right _ hk)
    · rw [List.getElem?_take] at hu
      split at hu
      · exact hu
      · cases hu
theorem OwS.rd {E : Nat → Prop} (h : OwS A e R E w v l) : RdS A (fun k => R k ∨ E k) w v l := by
  obtain ⟨css, h1, h2, h3, h4⟩ := h
  exact ⟨css, h1, fun i cs a hi hl => A.wid (h2 i cs a hi hl) (fun k hk => Or.inr hk.1), Own.rd h3, fun _ g hg => Or.inl (h4 g hg)⟩
theorem OwS.shape {E : Nat → Prop} (h : OwS A e R E w v l) : ∃ ao cap, v = .slice ao l.length cap := h.rd.shape
theorem OwS.mod {E : Nat → Prop} (h : OwS A e R E w v l) (hm : Mod S w w') (hs : ∀ k, R k → S k → False) (hs2 : ∀ k, E k → S k → False) : OwS A e R E w' v l := by
  obtain ⟨css, h1, h2, h3, h4⟩ := h
  exact ⟨css, h1, fun i cs a hi hl => Rep.mod (h2 i cs a hi hl) hm (fun k hk => hs2 k hk.1), Own.mod h3 hm (fun g hg hS => hs g (h4 g hg) hS), h4⟩
theorem OwS.widen {E E' : Nat → Prop} (h : OwS A e R E w v l) (hs : ∀ k, R k → R' k) (hs2 : ∀ k, E k → E' k) : OwS A e R' E' w v l := by
  obtain ⟨css, h1, h2, h3, h4⟩ := h
  exact ⟨css, h1, fun i cs a hi hl => A.wid (h2 i cs a hi hl) (fun k hk => ⟨hs2 k hk.1, hk.2⟩), h3, fun g hg => hs g (h4 g hg)⟩
theorem OwS.nil (A : Rep α) (e : TypeId) (R E : Nat → Prop) (w : World) : OwS A e R E w (.slice none 0 0) [] := ⟨[], rfl, (fun i cs a h => by simp at h), Own.nil _ _ _ _, fun g hg => by cases hg⟩
/-- one thing in a block of its own, as a slice -/
theorem RdS.single {g : Nat} {T : TypeId} {cs : List Value} {a : α} (hc : Cs w g cs.toArray T) (ha : A.rd R w cs a) (hg : R g) : RdS A R w (.slice (some ⟨g, 0, none⟩) 1 1) [a] := by
  refine ⟨[cs], rfl, fun i c b hi hb => ?_, ?_, fun _ g' hg' => by cases hg'; exact hg⟩
  · cases i with
    | zero => simp at hi hb; subst hi hb; exact ha
    | succ i => simp at hi
  · have hl := A.len ha
    refine Rd.mk (Nat.le_refl _) (by rw [maxLen_val]; omega) (by simp [hl]) fun j u hu => ?_
    rw [Nat.zero_add, hc.cell]
    simpa using hu

theorem run_appS {P : Program} {E R2 : Nat → Prop} (w : World) (t ty e : TypeId) (z : Value) (bytes : Nat) (ht : P.underlying t = some (.slice e)) (hinfo : (P.info? e).map (fun i => (i.zero, i.size, i.bytes)) = some (some z, A.sz, bytes)) (hzs : z.cells.size = A.sz) (hzE : ∀ u ∈ z.cells.toList, u.oneCell' = true)
    {v xv : Value} {new : List α} (hown : OwS A e R E w v l) (hrd : RdS A R2 w xv new) (hd : ∀ k, R2 k → v.ownBlock ≠ some k) (hbytes : (l.length + new.length) * bytes ≤ 140737488355328) (h63 : l.length + new.length ≤ maxLen) :
    ∃ ao cap w', (Builtin.append_ #[t, t] ty #[v, xv]).run P w = .ok (.slice ao (l.length + new.length) cap) w' ∧ OwS A e (fun k => R k ∨ (w.heap.size ≤ k ∧ k < w'.heap.size)) (fun k => E k ∨ R2 k) w' (.slice ao (l.length + new.length) cap) (l ++ new) ∧ Mod R w w' := by
  obtain ⟨i0, hi, hz0, hz1, hz2⟩ := info_parts hinfo
  obtain ⟨css, h1, h3, h4, h5⟩ := hown
  obtain ⟨css2, k1, k2, k3, k4⟩ := hrd
  have hone : ∀ u ∈ css2.flatten, u.oneCell' = true := by
    intro u hu
    obtain ⟨cs, hcs, hu⟩ := List.mem_flatten.1 hu
    obtain ⟨i, hi⟩ := List.getElem?_of_mem hcs
    have h9 := (List.getElem?_eq_some_iff.1 hi).1
    exact A.one (k2 i cs new[i] hi (List.getElem?_eq_getElem (by omega))) u hu
  obtain ⟨ao, cap, w', hr, hown, hm, hb⟩ := run_append (P := P) w t ty e i0 z A.sz bytes ht hi hz0 hz1 hz2 hzs A.pos hzE v l.length css.flatten h4 xv new.length css2.flatten k3 hone hone hbytes h63
  have hnb : ∀ k, k < w.heap.size → v.ownBlock ≠ some k → (Value.slice ao (l.length + new.length) cap).ownBlock ≠ some k := by
    intro k hk hne he
    rcases hb with hb | ⟨k', hb, hk'⟩
    · exact hne (hb ▸ he)
    · rw [hb] at he; cases he; omega
  refine ⟨ao, cap, w', hr, ⟨css ++ css2, by simp [h1, k1], fun i cs a hi ha => ?_, ?_, fun g hg => ?_⟩, hm.mono fun k _ hk => h5 k hk.symm⟩
  · by_cases hil : i < l.length
    · rw [List.getElem?_append_left (by omega)] at hi ha
      have := Rep.mod (A.tight (h3 i cs a hi ha)) hm (fun k hk hS => hk.1.2 hS.symm)
      exact A.wid this fun k hk => ⟨Or.inl hk.1.1, hnb k hk.2 hk.1.2⟩
    · rw [List.getElem?_append_right (by omega)] at hi ha
      rw [h1] at hi
      have := Rep.mod (A.tight (k2 _ cs a hi ha)) hm (fun k hk hS => hd k hk.1 hS.symm)
      exact A.wid this fun k hk => ⟨Or.inr hk.1, hnb k hk.2 (hd k hk.1)⟩
  · rw [List.length_append, List.flatten_append]
    exact hown
  · rcases hb with hb | ⟨k, hb, hk⟩
    · exact Or.inl (h5 g (hb ▸ hg))
    · rw [hb] at hg
      cases hg
      exact Or.inr ⟨hk, Own.lt hown hb⟩
end
end Go.Gv

/- Package gavelkeep: what its functions over numbers and bytes do. -/
set_option maxRecDepth 100000
namespace Go.Proofs.Ytgnmdnmmemdemaa
open Go Go.RowKit Go.Gv

def within (v n : Int) : Int := if n < 1 then 0 else v % n

theorem within_tmod (v n : Int) (hn : 1 ≤ n) : within v n = if v.tmod n < 0 then v.tmod n + n else v.tmod n := by
  unfold within
  rw [if_neg (by omega)]
  have h1 := Int.emod_nonneg v (b := n) (by omega)
  have h2 := Int.emod_lt_of_pos v (b := n) (by omega)
  rw [Int.tmod_eq_emod]
  split <;> split <;> omega
theorem within_range (v n : Int) (hn : 1 ≤ n) : 0 ≤ within v n ∧ within v n < n := by
  unfold within
  rw [if_neg (by omega)]
  exact ⟨Int.emod_nonneg v (by omega), Int.emod_lt_of_pos v (by omega)⟩

theorem Within_any (v n : Int) (hn : 1 ≤ n) (hn2 : n ≤ 9223372036854775807) (_hv : -9223372036854775808 ≤ v ∧ v ≤ 9223372036854775807) (w : World) :
    Calls Try.prog 14 #[.int .i64 v, .int .i64 n] w fun e w' => e = .returned (.int .i64 (within v n)) ∧ w = w' := by
  have hh := within_tmod v n hn
  have hl : -n < v.tmod n ∧ v.tmod n < n := by
    have h1 := Int.emod_nonneg v (b := n) (by omega)
    have h2 := Int.emod_lt_of_pos v (b := n) (by omega)
    rw [Int.tmod_eq_emod]
    split <;> omega
  have HH := Lib.hid hh; clear hh
  go_enter Try.func14, Try.ntmps14
  go_wp2
  all_goals go_ret
  · exact ⟨ret_int (by rw [HH.out, if_pos (by assumption)]), rfl⟩
  · exact ⟨ret_int (by rw [HH.out, if_neg (by omega)]), rfl⟩

theorem Copy_any (v : Value) (bs : List Int) (w : World) (hr : RdB w v bs) (hl : bs.length ≤ Room) :
    Calls Try.prog 23 #[v] w fun e w' => ∃ ao cap, e = .returned (.slice ao bs.length cap) ∧ OwnB w' (.slice ao bs.length cap) bs ∧ Fresh w (.slice ao bs.length cap) ∧ Mod (fun _ => False) w w' := by
  have Hl := Lib.hid (show ([] : List Int).length + bs.length ≤ Room by simpa using hl)
  clear hl
  go_enter Try.func23, Try.ntmps23
  go_wp2_with (at_builtin; refine wpList_appB rfl (.const (.slice none 0 0)) (.tmp 3) rfl rfl (OwnB.nil _) (new := bs) rfl hr Hl.out ?_)
  intro ao cap w1 happ
  have HA := Lib.hid happ
  clear happ
  go_wp2
  go_ret
  obtain ⟨h1, h2, h3⟩ := HA.out
  simp only [List.length_nil, Nat.zero_add] at *
  refine ⟨ao, cap, rfl, h1, ?_, h2.mono (fun k _ hk => by simp [Value.ownBlock] at hk)⟩
  intro g hg
  rcases h3 with h3 | ⟨k, h3, hk⟩
  · rw [h3] at hg; cases hg
  · rw [h3] at hg; simp at hg; omega

theorem Cut_any (ao : Option Addr) (len cap : Nat) (bs : List Int) (n : Nat) (w : World) (hr : RdB w (.slice ao len cap) bs) (hn : n ≤ 1000000) :
    Calls Try.prog 17 #[.slice ao len cap, .int .i64 n] w fun e w' => ∃ ao cap, e = .returned (.slice ao (bs.take n).length cap) ∧ OwnB w' (.slice ao (bs.take n).length cap) (bs.take n) ∧ Fresh w (.slice ao (bs.take n).length cap) ∧ Mod (fun _ => False) w w' := by
  obtain ⟨rfl, hlc, hcm⟩ := hr.len
  rw [maxLen_val] at hcm
  by_cases h : bs.length ≤ n
  · have key := fun w => fun hr => Copy_any (.slice ao bs.length cap) (bs.take n) w hr (by simp; unfold Room; omega)
    have hr' : RdB w (.slice ao bs.length cap) (bs.take n) := by rw [List.take_of_length_le h]; exact hr
    have K := Lib.hid key
    clear key
    generalize bs.take n = ds at *
    go_enter Try.func17, Try.ntmps17
    go_wp2_with (go_at_call 23; go_must (refine (K.out _ hr').mono ?_); rintro e w1 ⟨ao1, cap1, rfl, h1, h2, h3⟩; have H1 := Lib.hid h1; have H2 := Lib.hid h2; have H3 := Lib.hid h3; clear h1 h2 h3)
    go_ret
    exact ⟨ao1, cap1, rfl, H1.out, H2.out, H3.out⟩
  · have key := fun w => fun hr => Copy_any (.slice ao n cap) (bs.take n) w hr (by simp; unfold Room; omega)
    have hr' : RdB w (.slice ao n cap) (bs.take n) := hr.upto n (by omega)
    have K := Lib.hid key
    clear key
    generalize bs.take n = ds at *
    go_enter Try.func17, Try.ntmps17
    go_wp2_with (go_at_call 23; go_must (refine (K.out _ hr').mono ?_); rintro e w1 ⟨ao1, cap1, rfl, h1, h2, h3⟩; have H1 := Lib.hid h1; have H2 := Lib.hid h2; have H3 := Lib.hid h3; clear h1 h2 h3)
    go_ret
    exact ⟨ao1, cap1, rfl, H1.out, H2.out, H3.out⟩

end Go.Proofs.Ytgnmdnmmemdemaa

/- code.Reader: what each of its methods reads, and what is left. -/
set_option maxRecDepth 100000
namespace Go.Proofs.Ytgnmdnmmemdemaa
open Go Go.RowKit Go.Gv

/-! ### what a reader answers: its state is 'none' once it has failed, else the bytes that are left -/
def decGo : Nat → Nat → List Int → Option (Nat × List Int)
  | _, _, [] => none
  | i, acc, c :: cs =>
    if i = 9 ∧ 1 < c then none
    else if c < 128 then (if c = 0 ∧ 0 < i then none else some (acc + c.toNat * 2 ^ (7 * i), cs))
    else decGo (i + 1) (acc + (c.toNat - 128) * 2 ^ (7 * i)) cs

abbrev RSt := Option (List Int)
def rNum : RSt → Nat × RSt
  | none => (0, none)
  | some bs => match decGo 0 0 bs with
    | some (n, r) => (n, some r)
    | none => (0, none)
def rTake (n : Nat) : RSt → List Int × RSt
  | none => ([], none)
  | some bs => if bs.length < n then ([], none) else (bs.take n, some (bs.drop n))
def rInt (most : Int) (s : RSt) : Nat × RSt :=
  if (rNum s).2.isNone ∨ most < 0 ∨ most < (rNum s).1 then (0, none) else rNum s
def rRow (most : Int) (s : RSt) : List Int × RSt := rTake (rInt most s).1 (rInt most s).2
def rHash (s : RSt) : List Int × RSt :=
  match rTake 32 s with
  | (_, none) => (List.replicate 32 0, none)
  | (b, some r) => (b, some r)

/-- a reader: its bytes, whether it has failed -/
def Rr (T : TypeId) (w : World) (r : Nat) (v : Value) (s : RSt) : Prop := Cs w r #[v, .bool s.isNone] T ∧ RdB w v (s.getD []) ∧ Apart v (s.getD []).length (fun k => k = r)
/-- what has become of a reader: its slice lies where it lay -/
def RrTo (T : TypeId) (w : World) (r : Nat) (v : Value) (s : RSt) (w' : World) : Prop :=
  ∃ v', Rr T w' r v' s ∧ Mod (fun k => k = r) w w' ∧ (0 < (s.getD []).length → v'.ownBlock = v.ownBlock)

theorem Rr.mod {T : TypeId} {S : Nat → Prop} {w w' : World} {r : Nat} {v : Value} {s : RSt} (h : Rr T w r v s) (hm : Mod S w w') (hr : ¬ S r) (hv : Apart v (s.getD []).length S) : Rr T w' r v s :=
  ⟨h.1.mod hm hr, h.2.1.mod hm hv, h.2.2⟩

theorem RrTo.trans {T : TypeId} {w w1 w2 : World} {r : Nat} {v v1 : Value} {s1 s2 : RSt} (hm : Mod (fun k => k = r) w w1) (hb : 0 < (s1.getD []).length → v1.ownBlock = v.ownBlock)
    (h : RrTo T w1 r v1 s2 w2) (hl : (s2.getD []).length ≤ (s1.getD []).length) : RrTo T w r v s2 w2 := by
  obtain ⟨v2, h1, h2, h3⟩ := h
  exact ⟨v2, h1, hm.trans h2 (fun _ _ h => h), fun h => (h3 h).trans (hb (by omega))⟩

end Go.Proofs.Ytgnmdnmmemdemaa

/- code.Reader.Num: the next number. -/
set_option maxRecDepth 100000
namespace Go.Proofs.Ytgnmdnmmemdemaa
open Go Go.RowKit Go.Gv

/-- an array of 32 bytes, as a value -/
def hv (h : List Int) : Value := .agg (h.map bv).toArray

theorem size_hash : (Try.prog.info? 28).map (·.size) = some 32 := by kernel_rfl

end Go.Proofs.Ytgnmdnmmemdemaa

/- code.Writer: what each of its methods does to the bytes written. -/
set_option maxRecDepth 100000
namespace Go.Proofs.Ytgnmdnmmemdemaa
open Go Go.RowKit Go.Gv

/-- seven binary digits a byte, the lowest first -/
def encN (n : Nat) : List Int := if n < 128 then [(n : Int)] else ((n : Int) % 128 + 128) :: encN (n / 128)
termination_by n
decreasing_by omega

theorem encN_lt {n : Nat} (h : n < 128) : encN n = [(n : Int)] := by rw [encN, if_pos h]
theorem encN_ge {n : Nat} (h : 128 ≤ n) : encN n = ((n : Int) % 128 + 128) :: encN (n / 128) := by rw [encN, if_neg (by omega)]
theorem encN_len (k : Nat) : ∀ n, n < 128 ^ (k + 1) → 1 ≤ (encN n).length ∧ (encN n).length ≤ k + 1 := by
  induction k with
  | zero => intro n hn; rw [encN_lt (by omega)]; simp
  | succ k ih =>
    intro n hn
    by_cases h : n < 128
    · rw [encN_lt h]; simp
    · rw [encN_ge (by omega)]
      have := ih (n / 128) (by rw [Nat.pow_succ] at hn; omega)
      simp only [List.length_cons]; omega
theorem encN_pos (n : Nat) : 1 ≤ (encN n).length := by
  by_cases h : n < 128
  · rw [encN_lt h]; simp
  · rw [encN_ge (by omega)]; simp
theorem encN_len10 {n : Nat} (h : n < U64) : 1 ≤ (encN n).length ∧ (encN n).length ≤ 10 :=
  encN_len 9 n (Nat.lt_of_lt_of_le h (by unfold U64; decide))

theorem or128 (m : Nat) : bits .or .u8 ((m : Int) % 256) 128 = (m : Int) % 128 + 128 := by
  have e : ((m : Int) % 256) = ((m % 256 : Nat) : Int) := by omega
  have h := u8_or_nat (m % 256) 128 (by omega) (by omega)
  rw [e]
  refine h.trans ?_
  have d : ∀ x, x < 256 → x ||| 128 = x % 128 + 128 := by decide
  rw [d _ (by omega), Nat.mod_mod_of_dvd _ (by decide)]; omega

def Wr (w : World) (b : Nat) (v : Value) (bs : List Int) : Prop := Cs w b #[v] 121 ∧ OwnB w v bs
def WrTo (w : World) (b : Nat) (v : Value) (bs : List Int) (w' : World) : Prop :=
  ∃ v', Wr w' b v' bs ∧ Mod (fun k => k = b ∨ some k = v.ownBlock) w w' ∧ (v'.ownBlock = v.ownBlock ∨ ∃ k, v'.ownBlock = some k ∧ w.heap.size ≤ k)

theorem Wr.mod {S : Nat → Prop} {w w' : World} {b : Nat} {v : Value} {bs : List Int} (h : Wr w b v bs) (hm : Mod S w w') (hb : ¬ S b) (hv : ∀ g, v.ownBlock = some g → ¬ S g) : Wr w' b v bs :=
  ⟨h.1.mod hm hb, OwnB.mod h.2 hm hv⟩
theorem WrTo.refl {w : World} {b : Nat} {v : Value} {bs : List Int} (h : Wr w b v bs) : WrTo w b v bs w := ⟨v, h, Mod.refl _ _, .inl rfl⟩

theorem WrTo.trans {w w1 w2 : World} {b : Nat} {v v1 : Value} {bs2 : List Int} (hm : Mod (fun k => k = b ∨ some k = v.ownBlock) w w1)
    (hf : v1.ownBlock = v.ownBlock ∨ ∃ k, v1.ownBlock = some k ∧ w.heap.size ≤ k) (h : WrTo w1 b v1 bs2 w2) : WrTo w b v bs2 w2 := by
  obtain ⟨v', h1, h2, h3⟩ := h
  refine ⟨v', h1, hm.trans h2 ?_, ?_⟩
  · intro i hi hS
    rcases hS with hS | hS
    · exact .inl hS
    · rcases hf with hf | ⟨k, hf, hk⟩
      · exact .inr (hS.trans hf)
      · rw [hf] at hS; simp at hS; omega
  · rcases h3 with h3 | ⟨k, h3, hk⟩
    · rw [h3]; exact hf
    · exact .inr ⟨k, h3, Nat.le_trans hm.size hk⟩

/-- the store of what an append gave into the writer -/
theorem Wr_step {w w1 : World} {b : Nat} {v : Value} {bs : List Int} {v1 : Value} (hW : Wr w b v bs) (wx : World) (hx : Mod (fun _ => False) w wx) (new : List Int)
    (h : AppB wx v (bs ++ new) v1 w1) (hv : v.ownBlock ≠ some b) :
    w1.cell? ⟨b, 0, none⟩ = some v ∧ w1.frozen? ⟨b, 0, none⟩ = false ∧ WrTo w b v (bs ++ new) (w1.setCell ⟨b, 0, none⟩ v1) := by
  obtain ⟨hc, ho⟩ := hW
  obtain ⟨h1, h2, h3⟩ := h
  have hb : ¬ (some b = v.ownBlock) := fun e => hv e.symm
  have hc1 : Cs w1 b #[v] 121 := (hc.mod hx id).mod h2 hb
  refine ⟨by rw [hc1.cell]; rfl, hc1.frozen 0, v1, ⟨hc1.set 0 v1, ?_⟩, ?_, ?_⟩
  · refine Own.other h1 ?_ _
    intro g hg e
    subst e
    rcases h3 with h3 | ⟨k, h3, hk⟩
    · rw [h3] at hg; exact hv hg
    · rw [h3] at hg; simp at hg; subst hg; have := hc.lt; have := hx.size; omega
  · exact ((hx.mono (fun _ _ h => h.elim)).trans h2 (fun i _ h => .inr h)).setCell (fun _ => .inl rfl) _
  · rcases h3 with h3 | ⟨k, h3, hk⟩
    · exact .inl h3
    · exact .inr ⟨k, h3, Nat.le_trans hx.size hk⟩

theorem Wr_ne {w : World} {b : Nat} {v : Value} {bs : List Int} (hW : Wr w b v bs) : v.ownBlock ≠ some b := by
  obtain ⟨hc, _, _, ⟨rfl, _⟩ | ⟨g, cap, cur, rfl, hg, _⟩⟩ := hW
  · simp [Value.ownBlock]
  · simp only [Value.ownBlock, ne_eq, Option.some.injEq]
    intro e
    subst e
    unfold Cs at hc hg
    rw [hc] at hg
    simp at hg

theorem Num_any (b n : Nat) (v : Value) (bs : List Int) (w : World) (hW : Wr w b v bs) (hn : n < U64) (hl : bs.length + 10 ≤ Room) :
    Calls Try.prog 79 #[.pointer (some ⟨b, 0, none⟩), .int .u64 n] w fun e w' => e = .returned (.pointer (some ⟨b, 0, none⟩)) ∧ WrTo w b v (bs ++ encN n) w' := by
  have hen := encN_len10 hn
  clear hn
  go_enter Try.func79, Try.ntmps79
  go_wp2
  go_loopw [1] (fun t wr => ∃ (m : Nat) (bs' : List Int), t = .int .u64 m ∧ m ≤ n ∧ bs' ++ encN m = bs ++ encN n ∧ WrTo w b v bs' wr) (fun t _ => (intOf t).toNat)
  case atStart => exact ⟨n, bs, rfl, Nat.le_refl _, rfl, .refl hW⟩
  case round =>
    obtain ⟨m, bs', rfl, hm, hbs, v', hW', hmod, hfr⟩ := hrel
    have hlen : bs'.length + (encN m).length = bs.length + (encN n).length := by have := congrArg List.length hbs; simpa using this
    have hcell : wr.cell? ⟨b, 0, none⟩ = some v' := (hW'.1.cell 0).trans rfl
    have hlt := hW'.1.lt
    have hpos := encN_pos m
    have hroom : bs'.length + 1 ≤ Room := by omega
    have Hne := Lib.hid (Wr_ne hW')
    have Hbs := Lib.hid hbs
    have Hfr := Lib.hid hfr
    have Hm := Lib.hid hmod
    have Hr := Lib.hid hroom
    clear hbs hfr hmod hlen hl hen hroom hpos
    by_cases h128 : (128 : Int) ≤ m
    · have hor := or128 m
      go_wp2_with (at_builtin; refine wpList_appB rfl (.tmp 11) (.tmp 15) rfl rfl (hW'.2.alloc _) (new := [(m : Int) % 128 + 128]) rfl (RdB_one _ (by omega) (by omega) _) Hr.out ?_)
      intro ao cap w1 happ
      obtain ⟨hc1, hf1, hWT⟩ := Wr_step hW' _ ((Mod.refl _ _).alloc _) [(m : Int) % 128 + 128] happ Hne.out
      have HWT := Lib.hid hWT
      clear hWT happ hor
      go_wp2
      go_roundw
      case rel => exact ⟨m / 128, _, by go_num, by omega, by have := Hbs.out; rw [encN_ge (by omega)] at this; simpa using this, WrTo.trans Hm.out Hfr.out HWT.out⟩
      case measure => simp [intOf]; omega
    · go_wp2_with (at_builtin; refine wpList_appB rfl (.tmp 25) (.tmp 28) rfl rfl (hW'.2.alloc _) (new := [(m : Int)]) rfl (RdB_one _ (by omega) (by omega) _) Hr.out ?_)
      intro ao cap w1 happ
      obtain ⟨hc1, hf1, hWT⟩ := Wr_step hW' _ ((Mod.refl _ _).alloc _) [(m : Int)] happ Hne.out
      have HWT := Lib.hid hWT
      clear hWT happ
      go_wp2
      go_ret
      refine ⟨rfl, ?_⟩
      have hb := Hbs.out
      rw [encN_lt (by omega)] at hb
      rw [← hb]
      exact WrTo.trans Hm.out Hfr.out HWT.out

theorem encN_bytes : ∀ n, Bytes (encN n) := by
  intro n
  induction n using Nat.strongRecOn with
  | _ n ih =>
    by_cases h : n < 128
    · rw [encN_lt h]; exact Bytes.one (by omega) (by omega)
    · rw [encN_ge (by omega)]
      intro x hx
      rcases List.mem_cons.1 hx with rfl | hx
      · omega
      · exact ih (n / 128) (by omega) x hx

/-- a number from 0 on -/
def encI (n : Int) : List Int := encN (max 0 n).toNat

theorem WInt_any (b : Nat) (n : Int) (v : Value) (bs : List Int) (w : World) (hW : Wr w b v bs) (hn : -9223372036854775808 ≤ n ∧ n ≤ 9223372036854775807) (hl : bs.length + 10 ≤ Room) :
    Calls Try.prog 60 #[.pointer (some ⟨b, 0, none⟩), .int .i64 n] w fun e w' => e = .returned (.pointer (some ⟨b, 0, none⟩)) ∧ WrTo w b v (bs ++ encI n) w' := by
  have hU : (max 0 n).toNat < U64 := by unfold U64; omega
  have key := Num_any b (max 0 n).toNat v bs w hW hU hl
  have Hl := Lib.hid hl
  clear hU hl key
  by_cases h0 : 0 < n
  · obtain ⟨k, rfl⟩ := Int.eq_ofNat_of_zero_le (Int.le_of_lt h0)
    have ek : (max 0 (k : Int)).toNat = k := by omega
    unfold encI
    rw [ek]
    clear ek
    go_enter Try.func60, Try.ntmps60
    go_wp2_with (go_at_call 79; go_must (refine (Num_any b k v bs _ hW (by unfold U64; omega) Hl.out).mono ?_); rintro e w' ⟨rfl, hWT⟩; have HW := Lib.hid hWT; clear hWT)
    go_ret
    exact ⟨rfl, HW.out⟩
  · have ek : (max 0 n).toNat = 0 := by omega
    unfold encI
    rw [ek]
    clear ek
    go_enter Try.func60, Try.ntmps60
    go_wp2_with (go_at_call 79; go_must (refine (Num_any b 0 v bs _ hW (by unfold U64; omega) Hl.out).mono ?_); rintro e w' ⟨rfl, hWT⟩; have HW := Lib.hid hWT; clear hWT)
    go_ret
    exact ⟨rfl, HW.out⟩

theorem encI_len (n : Int) (hn : n ≤ 9223372036854775807) : 1 ≤ (encI n).length ∧ (encI n).length ≤ 10 := encN_len10 (by unfold U64; omega)
theorem encI_bytes (n : Int) : Bytes (encI n) := encN_bytes _
theorem encI_nat (n : Nat) : encI n = encN n := by unfold encI; congr 1

theorem NewWriter_any (w : World) :
    Calls Try.prog 58 #[] w fun e w' => e = .returned (.pointer (some ⟨w.heap.size, 0, none⟩)) ∧ Wr w' w.heap.size (.slice none 0 0) [] ∧ Mod (fun _ => False) w w' := by
  go_enter Try.func58, Try.ntmps58
  go_wp2
  go_ret
  exact ⟨rfl, ⟨Cs.new _ _ _, OwnB.nil _⟩, (Mod.refl _ _).alloc _⟩

/-- the bytes written, in new memory -/
theorem WBytes_any (b : Nat) (v : Value) (bs : List Int) (w : World) (hW : Wr w b v bs) (hl : bs.length ≤ Room) :
    Calls Try.prog 63 #[.pointer (some ⟨b, 0, none⟩)] w fun e w' => ∃ ao cap, e = .returned (.slice ao bs.length cap) ∧ OwnB w' (.slice ao bs.length cap) bs ∧ Fresh w (.slice ao bs.length cap) ∧ Mod (fun _ => False) w w' := by
  have hcell : w.cell? ⟨b, 0, none⟩ = some v := (hW.1.cell 0).trans rfl
  have Hl := Lib.hid (show ([] : List Int).length + bs.length ≤ Room by simpa using hl)
  clear hl
  go_enter Try.func63, Try.ntmps63
  go_wp2_with (at_builtin; refine wpList_appB rfl (.const (.slice none 0 0)) (.tmp 6) rfl rfl (OwnB.nil _) (new := bs) rfl hW.2.rd Hl.out ?_)
  intro ao cap w1 happ
  have HA := Lib.hid happ
  clear happ
  go_wp2
  go_ret
  obtain ⟨h1, h2, h3⟩ := HA.out
  simp only [List.length_nil, Nat.zero_add] at *
  refine ⟨ao, cap, rfl, h1, ?_, h2.mono (fun k _ hk => by simp [Value.ownBlock] at hk)⟩
  intro g hg
  rcases h3 with h3 | ⟨k, h3, hk⟩
  · rw [h3] at hg; cases hg
  · rw [h3] at hg; simp at hg; omega

theorem WRow_any (b : Nat) (v : Value) (bs : List Int) (ao : Option Addr) (cap : Nat) (cs : List Int) (w : World) (hW : Wr w b v bs) (hr : RdB w (.slice ao cs.length cap) cs)
    (hs : Apart (.slice ao cs.length cap) cs.length (fun k => k = b ∨ some k = v.ownBlock)) (hl : bs.length + cs.length + 10 ≤ Room) :
    Calls Try.prog 59 #[.pointer (some ⟨b, 0, none⟩), .slice ao cs.length cap] w fun e w' => e = .returned (.pointer (some ⟨b, 0, none⟩)) ∧ WrTo w b v (bs ++ (encN cs.length ++ cs)) w' := by
  have hR : cs.length < 9223372036854775807 := by unfold Room at hl; omega
  have HR := Lib.hid hR
  have h10 := encN_len10 (n := cs.length) (by unfold U64; omega)
  have Hl := Lib.hid (show (bs ++ encN cs.length).length + cs.length ≤ Room by simp; omega)
  have Hl2 := Lib.hid (show bs.length + 10 ≤ Room by omega)
  have Hs := Lib.hid hs
  clear hs hl hR h10
  go_enter Try.func59, Try.ntmps59
  go_wp2_with (first
    | (go_at_call 60; go_must (refine (WInt_any b cs.length v bs _ hW (by have := HR.out; omega) Hl2.out).mono ?_); rintro e w1 ⟨rfl, v1, hW1, hm1, hf1⟩; have hcell : w1.cell? ⟨b, 0, none⟩ = some v1 := (hW1.1.cell 0).trans rfl; rw [encI_nat] at hW1; have hr1 : RdB w1 (.slice ao cs.length cap) cs := hr.mod hm1 Hs.out; have HM1 := Lib.hid hm1; have HF1 := Lib.hid hf1; clear hm1 hf1)
    | (at_builtin; go_must (refine wpList_appB rfl (.tmp 13) (.tmp 14) rfl rfl hW1.2 (new := cs) rfl hr1 Hl.out ?_)))
  intro ao1 cap1 w2 happ
  rw [← List.append_assoc] at happ
  obtain ⟨hc1, hf1, hWT⟩ := Wr_step hW1 w1 (Mod.refl _ _) cs happ (Wr_ne hW1)
  have HWT := Lib.hid hWT
  clear hWT happ hr1 hr hW1 hW
  go_wp2
  go_ret
  refine ⟨rfl, ?_⟩
  rw [← List.append_assoc]
  exact WrTo.trans HM1.out HF1.out HWT.out
end Go.Proofs.Ytgnmdnmmemdemaa

/- code.Writer.Hash: 32 bytes behind what is written. -/
set_option maxRecDepth 100000
namespace Go.Proofs.Ytgnmdnmmemdemaa
open Go Go.RowKit Go.Gv

theorem WHash_any (b : Nat) (v : Value) (bs h : List Int) (w : World) (hW : Wr w b v bs) (hh : h.length = 32) (hB : Bytes h) (hl : bs.length + 32 ≤ Room) :
    Calls Try.prog 62 #[.pointer (some ⟨b, 0, none⟩), hv h] w fun e w' => e = .returned (.pointer (some ⟨b, 0, none⟩)) ∧ WrTo w b v (bs ++ h) w' := by
  have hlt := hW.1.lt
  obtain ⟨w1, e1, hW1, hc1, hm1⟩ : ∃ w1, w.alloc (.cells (h.map bv).toArray 28) = w1 ∧ Wr w1 b v bs ∧ Cs w1 w.heap.size (h.map bv).toArray 28 ∧ Mod (fun _ => False) w w1 :=
    ⟨_, rfl, hW.mod ((Mod.refl _ _).alloc _) id (fun _ _ => id), Cs.new _ _ _, (Mod.refl _ _).alloc _⟩
  have hcell : w1.cell? ⟨b, 0, none⟩ = some v := (hW1.1.cell 0).trans rfl
  have hrd : RdB w1 (.slice (some ⟨w.heap.size, 0, none⟩) 32 32) h := ⟨hB, by
    rw [hh]
    exact Rd.mk (Nat.le_refl _) (by rw [maxLen_val]; omega) (by simp [hh]) (fun j u hu => by rw [Nat.zero_add, hc1.cell]; simpa using hu)⟩
  have Hroom := Lib.hid (show bs.length + h.length ≤ Room by omega)
  have HW1 := Lib.hid hW1
  have HRD := Lib.hid hrd
  have HM1 := Lib.hid hm1
  have E1 := Lib.hid e1
  have HH := Lib.hid hh
  clear hW hc1 hrd hm1 hh hB hl e1 hW1
  unfold hv
  go_enter Try.func62, Try.ntmps62
  go_wp2_with fail
  rw [E1.out]
  go_region_law (refine step_appB rfl (.tmp 9) (.tmp 10) rfl rfl (OwnB.drew HW1.out.2) (new := h) rfl HRD.out.drew Hroom.out ?_; intro ao cap w2 happ; obtain ⟨hc2, hf2, hWT⟩ := Wr_step HW1.out _ ((Mod.refl _ _).drew) h happ (Wr_ne HW1.out); have HWT := Lib.hid hWT; clear hWT happ)
  go_wp2
  go_ret
  refine ⟨rfl, ?_⟩
  exact WrTo.trans (HM1.out.mono (fun _ _ h => h.elim)) (.inl rfl) HWT.out
end Go.Proofs.Ytgnmdnmmemdemaa

/- Package gavelkeep: bytes that are lent, that are intact, that are spoilt. -/
set_option maxRecDepth 100000
namespace Go.Proofs.Ytgnmdnmmemdemaa
open Go Go.RowKit Go.Gv

def lendc (bs : List Int) (k : Nat) : List Int := bs ++ (List.replicate k 85 ++ List.replicate (3 - k) 0)
/-- bytes that are lent: three more lie behind them -/
def Lent (w : World) (v : Value) (bs : List Int) : Prop := ∃ g, v = .slice (some ⟨g, 0, none⟩) bs.length (bs.length + 3) ∧ Cs w g ((lendc bs 3).map bv).toArray 5

end Go.Proofs.Ytgnmdnmmemdemaa

/- gavellaw01: the document's own example. -/
set_option maxRecDepth 100000
namespace Go.Proofs.Ytgnmdnmmemdemaa
open Go Go.RowKit Go.Gv

end Go.Proofs.Ytgnmdnmmemdemaa

/- The plain law of numbers and rows as bytes: what is written is read. -/
set_option maxRecDepth 100000
namespace Go.Proofs.Ytgnmdnmmemdemaa
open Go Go.RowKit Go.Gv

theorem pow128 (i : Nat) : 2 ^ (7 * (i + 1)) = 128 * 2 ^ (7 * i) := by rw [Nat.mul_add, Nat.pow_add, Nat.mul_comm]

theorem dec_enc (rest : List Int) : ∀ (m i acc : Nat), (i = 0 ∨ 1 ≤ m) → m * 2 ^ (7 * i) < U64 → i ≤ 9 → decGo i acc (encN m ++ rest) = some (acc + m * 2 ^ (7 * i), rest) := by
  intro m
  induction m using Nat.strongRecOn with
  | _ m ih =>
    intro i acc h1 h2 h3
    by_cases hm : m < 128
    · rw [encN_lt hm]
      simp only [List.cons_append, List.nil_append, decGo]
      have n1 : ¬ (i = 9 ∧ (1 : Int) < m) := by
        rintro ⟨rfl, h⟩
        unfold U64 at h2
        simp only [Nat.reduceMul, Nat.reducePow] at h2
        omega
      rw [if_neg n1, if_pos (by omega), if_neg (by omega)]
      simp
    · rw [encN_ge (by omega)]
      simp only [List.cons_append, decGo]
      have hp := pow128 i
      have hle : 128 * 2 ^ (7 * i) ≤ m * 2 ^ (7 * i) := Nat.mul_le_mul_right _ (by omega)
      have hi : i ≤ 8 := by
        rcases Nat.lt_or_ge i 9 with h | h
        · omega
        · obtain rfl : i = 9 := by omega
          unfold U64 at h2
          simp only [Nat.reduceMul, Nat.reducePow] at h2 hle
          omega
      have hdm : (m / 128) * 2 ^ (7 * (i + 1)) + (m % 128) * 2 ^ (7 * i) = m * 2 ^ (7 * i) := by
        rw [hp, ← Nat.mul_assoc, ← Nat.add_mul]
        congr 1
        omega
      rw [if_neg (by omega), if_neg (by omega)]
      have e : ((m : Int) % 128 + 128).toNat - 128 = m % 128 := by omega
      rw [e, ih (m / 128) (by omega) (i + 1) _ (.inr (by omega)) (by omega) (by omega)]
      congr 2
      omega

theorem rNum_enc {m : Nat} (hm : m < U64) (rest : List Int) : rNum (some (encN m ++ rest)) = (m, some rest) := by
  have := dec_enc rest m 0 0 (.inl rfl) (by simpa using hm) (by omega)
  simp [rNum, this]
theorem rTake_app {n : Nat} {a : List Int} (h : a.length = n) (rest : List Int) : rTake n (some (a ++ rest)) = (a, some rest) := by
  subst h
  simp [rTake]
@[simp] theorem rNum_none' : rNum none = (0, none) := rfl
@[simp] theorem rInt_none (most : Int) : rInt most none = (0, none) := by simp [rInt]
@[simp] theorem rTake_none (n : Nat) : rTake n none = ([], none) := rfl
@[simp] theorem rRow_none (most : Int) : rRow most none = ([], none) := by simp [rRow]
@[simp] theorem rHash_none : rHash none = (List.replicate 32 0, none) := rfl
end Go.Proofs.Ytgnmdnmmemdemaa

/- The contracts once more, each object with the blocks in which it lives (R): so that what one call does to one object leaves the others. -/
set_option maxRecDepth 100000
set_option linter.unusedVariables false
namespace Go.Proofs.Ytgnmdnmmemdemaa
open Go Go.RowKit Go.Gv

/-- a list of bytes (at most N) that is only read; its block, where it has one that matters, is in R -/
def RdR (R : Nat → Prop) (N : Nat) (w : World) (v : Value) (bs : List Int) : Prop := RdB w v bs ∧ (0 < bs.length → ∀ g, v.ownBlock = some g → R g) ∧ bs.length ≤ N
/-- a list of bytes that may be appended to, spoilt -/
def OwR (R : Nat → Prop) (N : Nat) (w : World) (v : Value) (bs : List Int) : Prop := OwnB w v bs ∧ (∀ g, v.ownBlock = some g → R g) ∧ bs.length ≤ N
def WrR (R : Nat → Prop) (N : Nat) (w : World) (b : Nat) (bs : List Int) : Prop := ∃ v, Wr w b v bs ∧ R b ∧ (∀ g, v.ownBlock = some g → R g) ∧ bs.length ≤ N
def RrR (T : TypeId) (R : Nat → Prop) (w : World) (r : Nat) (s : RSt) : Prop := ∃ v, Rr T w r v s ∧ R r ∧ (0 < (s.getD []).length → ∀ g, v.ownBlock = some g → R g)

section
variable {R R' S : Nat → Prop} {N M : Nat} {w w' : World} {v : Value} {bs : List Int} {b r : Nat} {s : RSt} {T : TypeId}
theorem RdR.mod (h : RdR R N w v bs) (hm : Mod S w w') (hs : ∀ k, R k → S k → False) : RdR R N w' v bs := ⟨h.1.mod hm (fun h0 g hg hS => hs g (h.2.1 h0 g hg) hS), h.2⟩
theorem RdR.widen (h : RdR R N w v bs) (hs : ∀ k, R k → R' k) (hM : N ≤ M) : RdR R' M w v bs := ⟨h.1, fun h0 g hg => hs g (h.2.1 h0 g hg), Nat.le_trans h.2.2 hM⟩
theorem OwR.mod (h : OwR R N w v bs) (hm : Mod S w w') (hs : ∀ k, R k → S k → False) : OwR R N w' v bs := ⟨OwnB.mod h.1 hm (fun g hg hS => hs g (h.2.1 g hg) hS), h.2⟩
theorem OwR.widen (h : OwR R N w v bs) (hs : ∀ k, R k → R' k) (hM : N ≤ M) : OwR R' M w v bs := ⟨h.1, fun g hg => hs g (h.2.1 g hg), Nat.le_trans h.2.2 hM⟩
theorem OwR.rd (h : OwR R N w v bs) : RdR R N w v bs := ⟨h.1.rd, fun _ => h.2.1, h.2.2⟩
theorem WrR.mod (h : WrR R N w b bs) (hm : Mod S w w') (hs : ∀ k, R k → S k → False) : WrR R N w' b bs := by
  obtain ⟨v, h1, h2, h3, h4⟩ := h
  exact ⟨v, h1.mod hm (hs b h2) (fun g hg => hs g (h3 g hg)), h2, h3, h4⟩
theorem WrR.widen (h : WrR R N w b bs) (hs : ∀ k, R k → R' k) (hM : N ≤ M) : WrR R' M w b bs := by
  obtain ⟨v, h1, h2, h3, h4⟩ := h
  exact ⟨v, h1, hs b h2, fun g hg => hs g (h3 g hg), Nat.le_trans h4 hM⟩
theorem RrR.mod (h : RrR T R w r s) (hm : Mod S w w') (hs : ∀ k, R k → S k → False) : RrR T R w' r s := by
  obtain ⟨v, h1, h2, h3⟩ := h
  exact ⟨v, h1.mod hm (hs r h2) (fun h0 g hg => hs g (h3 h0 g hg)), h2, h3⟩
theorem RrR.widen (h : RrR T R w r s) (hs : ∀ k, R k → R' k) : RrR T R' w r s := by
  obtain ⟨v, h1, h2, h3⟩ := h
  exact ⟨v, h1, hs r h2, fun h0 g hg => hs g (h3 h0 g hg)⟩
theorem RdR.len {ao : Option Addr} {n cap : Nat} (h : RdR R N w (.slice ao n cap) bs) : n = bs.length := h.1.len.1
theorem RdR.shape (h : RdR R N w v bs) : ∃ ao cap, v = .slice ao bs.length cap := by obtain ⟨ao, cap, e, _⟩ := h.1.shape; exact ⟨ao, cap, e⟩
theorem OwR.shape (h : OwR R N w v bs) : ∃ ao cap, v = .slice ao bs.length cap := h.rd.shape
end

/-- what is new in w' -/
abbrev New (w w' : World) (k : Nat) : Prop := w.heap.size ≤ k ∧ k < w'.heap.size

theorem OwR_of {w w' : World} {v : Value} {bs : List Int} (N : Nat) (h : OwnB w' v bs) (hf : Fresh w v) (hN : bs.length ≤ N) : OwR (New w w') N w' v bs := ⟨h, fun g hg => ⟨hf g hg, Own.lt h hg⟩, hN⟩

theorem Cut_R {R : Nat → Prop} {N : Nat} {v : Value} {bs : List Int} (n : Nat) {w : World} (hr : RdR R N w v bs) (hn : n ≤ 1000000) :
    Calls Try.prog 17 #[v, .int .i64 n] w fun e w' => ∃ v', e = .returned v' ∧ OwR (New w w') n w' v' (bs.take n) ∧ Mod (fun _ => False) w w' := by
  obtain ⟨ao, cap, rfl⟩ := hr.shape
  exact (Cut_any ao _ cap bs n w hr.1 hn).mono fun e w' ⟨ao', cap', he, ho, hf, hm⟩ => ⟨_, he, OwR_of n ho hf (by simp; omega), hm⟩
theorem WrTo_R {R : Nat → Prop} {w w' : World} {b : Nat} {v : Value} {bs : List Int} (N : Nat) (hb : R b) (hv : ∀ g, v.ownBlock = some g → R g) (h : WrTo w b v bs w') (hN : bs.length ≤ N) :
    WrR (fun k => R k ∨ New w w' k) N w' b bs ∧ Mod R w w' := by
  obtain ⟨v', h1, h2, h3⟩ := h
  refine ⟨⟨v', h1, .inl hb, fun g hg => ?_, hN⟩, h2.mono (fun k _ hk => ?_)⟩
  · rcases h3 with h3 | ⟨k, h3, hk⟩
    · exact .inl (hv g (h3 ▸ hg))
    · rw [h3] at hg
      obtain rfl : k = g := by simpa using hg
      exact .inr ⟨hk, Own.lt h1.2 h3⟩
  · rcases hk with rfl | hk
    · exact hb
    · exact hv k hk.symm
theorem WInt_R {R : Nat → Prop} {N b : Nat} {n : Int} {bs : List Int} {w : World} (hW : WrR R N w b bs) (hn : -9223372036854775808 ≤ n ∧ n ≤ 9223372036854775807) (hl : N ≤ 1000000) :
    Calls Try.prog 60 #[.pointer (some ⟨b, 0, none⟩), .int .i64 n] w fun e w' => e = .returned (.pointer (some ⟨b, 0, none⟩)) ∧ WrR (fun k => R k ∨ New w w' k) (N + 10) w' b (bs ++ encI n) ∧ Mod R w w' := by
  obtain ⟨v, h1, h2, h3, h4⟩ := hW
  exact (WInt_any b n v bs w h1 hn (by unfold Room; omega)).mono fun _ _ ⟨he, h⟩ => ⟨he, WrTo_R _ h2 h3 h (by have := encI_len n hn.2; simp; omega)⟩
theorem WRow_R {R R' : Nat → Prop} {N M b : Nat} {bs : List Int} {v2 : Value} {cs : List Int} {w : World} (hW : WrR R N w b bs) (hr : RdR R' M w v2 cs) (hs : ∀ k, R' k → R k → False) (hl : N + M ≤ 1000000) :
    Calls Try.prog 59 #[.pointer (some ⟨b, 0, none⟩), v2] w fun e w' => e = .returned (.pointer (some ⟨b, 0, none⟩)) ∧ WrR (fun k => R k ∨ New w w' k) (N + M + 10) w' b (bs ++ (encN cs.length ++ cs)) ∧ Mod R w w' := by
  obtain ⟨v, h1, h2, h3, h4⟩ := hW
  obtain ⟨ao, cap, rfl⟩ := hr.shape
  have h5 := hr.2.2
  refine (WRow_any b v bs ao cap cs w h1 hr.1 ?_ (by unfold Room; omega)).mono fun _ _ ⟨he, h⟩ => ⟨he, WrTo_R _ h2 h3 h (by have := encN_len10 (n := cs.length) (by unfold U64; omega); simp; omega)⟩
  intro h0 g hg hk
  rcases hk with rfl | hk
  · exact hs _ (hr.2.1 h0 _ hg) h2
  · exact hs _ (hr.2.1 h0 _ hg) (h3 g hk.symm)
theorem WHash_R {R : Nat → Prop} {N b : Nat} {bs h : List Int} {w : World} (hW : WrR R N w b bs) (hh : h.length = 32) (hB : Bytes h) (hl : N ≤ 1000000) :
    Calls Try.prog 62 #[.pointer (some ⟨b, 0, none⟩), hv h] w fun e w' => e = .returned (.pointer (some ⟨b, 0, none⟩)) ∧ WrR (fun k => R k ∨ New w w' k) (N + 32) w' b (bs ++ h) ∧ Mod R w w' := by
  obtain ⟨v, h1, h2, h3, h4⟩ := hW
  exact (WHash_any b v bs h w h1 hh hB (by unfold Room; omega)).mono fun _ _ ⟨he, h⟩ => ⟨he, WrTo_R _ h2 h3 h (by simp; omega)⟩
theorem WBytes_R {R : Nat → Prop} {N b : Nat} {bs : List Int} {w : World} (hW : WrR R N w b bs) (hl : N ≤ 1000000) :
    Calls Try.prog 63 #[.pointer (some ⟨b, 0, none⟩)] w fun e w' => ∃ v', e = .returned v' ∧ OwR (New w w') N w' v' bs ∧ Mod (fun _ => False) w w' := by
  obtain ⟨v, h1, h2, h3, h4⟩ := hW
  exact (WBytes_any b v bs w h1 (by unfold Room; omega)).mono fun e w' ⟨ao', cap', he, ho, hf, hm⟩ => ⟨_, he, OwR_of N ho hf h4, hm⟩
/-- append of bytes, with the blocks -/
theorem wpList_appR {w : World} {ops : Array Oper} {rest : List Oper} {o : Oper} {a : Act} {Q : Exit → Act → World → Prop} (hgd : o.guard = none) (s x : Operand)
    (ho : o.op = .call { callee := .builtin .append, args := #[s, x], argTypes := #[36, 36] })
    {R R' : Nat → Prop} {N M : Nat} {v : Value} {bs : List Int} (hs : a.eval s = v) (hown : OwR R N w v bs) {xv : Value} {new : List Int} (hx : a.eval x = xv) (hrd : RdR R' M w xv new)
    (hroom : N + M ≤ 1000000)
    (h : ∀ ao cap w', OwR (fun k => R k ∨ New w w' k) (N + M) w' (.slice ao (bs.length + new.length) cap) (bs ++ new) → Mod R w w' → wpList Try.prog ops Q rest (a.put o.dst (.slice ao (bs.length + new.length) cap)) w') : wpList Try.prog ops Q (o :: rest) a w :=
  wpList_appB hgd s x ho hs hown.1 hx hrd.1 (by have := hown.2.2; have := hrd.2.2; unfold Room; omega) fun ao cap w' ⟨h1, h2, h3⟩ => h ao cap w' ⟨h1, (fun g hg => by
    rcases h3 with h3 | ⟨k, h3, hk⟩
    · exact .inl (hown.2.1 g (h3 ▸ hg))
    · rw [h3] at hg
      obtain rfl : k = g := by simpa using hg
      exact .inr ⟨hk, Own.lt h1 h3⟩), by have := hown.2.2; have := hrd.2.2; simp; omega⟩ (h2.mono (fun k _ hk => hown.2.1 k hk.symm))
end Go.Proofs.Ytgnmdnmmemdemaa

/- From a reading of the arguments to what the walks take: numbers, slices of bytes. -/
set_option maxRecDepth 100000
namespace Go.Proofs.Ytgnmdnmmemdemaa
open Go Go.RowKit Go.Gv Go.ChangeShapes Go.WideShapes Go.ChangeAt

theorem i64_bd {a : Int} (h : (Lit.int .i64 a).wf = true) : -9223372036854775808 ≤ a ∧ a ≤ 9223372036854775807 := bounds_i64 h

theorem bytes_of_trod {H : Type} {enc : TypeId × Value → H} {W : World} {base : Nat} {v : Value} {d : DataW H} {p : List MemPlace} (hv : Value.okWide Try.prog W .any base 36 v)
    (h : DataW.Trod enc Try.prog W 0 (fun _ => true) true 36 v d p) : ∃ bs, RdB W v bs ∧ Apart v bs.length (fun k => W.heap.size ≤ k) := by
  obtain ⟨a0, len0, cap0, rfl⟩ := okWide_slice Try.underlying36 hv
  obtain ⟨fuel, hf⟩ := h
  rcases open_ints Try.underlying36 Try.underlying5 (by kernel_rfl) hf with ⟨hcs, _⟩ | ⟨x, l, c, zs, hcs, _, hl, hm, hz, hx, hcell, hwz⟩
  · simp [Value.cells] at hcs
    obtain ⟨rfl, rfl, rfl⟩ := hcs
    exact ⟨[], RdB.nil _, Apart.zero⟩
  · simp [Value.cells] at hcs
    obtain ⟨rfl, rfl, rfl⟩ := hcs
    simp only [if_true] at hz
    have hbl : (zs.take len0).length = len0 := by simp; omega
    refine ⟨zs.take len0, ⟨?_, ?_⟩, ?_⟩
    · intro y hy
      have := bounds_u8 (hwz y (List.mem_of_mem_take hy))
      omega
    · rw [hbl]
      refine ⟨by simp; omega, some x, cap0, rfl, hl, hm, (fun h => by cases h), ?_⟩
      intro y hy j u hu
      cases hy
      simp only [List.getElem?_map, Option.map_eq_some_iff] at hu
      obtain ⟨q, hq, rfl⟩ := hu
      have hj : j < len0 := by have := (List.getElem?_eq_some_iff.1 hq).1; omega
      rw [List.getElem?_take, if_pos hj] at hq
      have h0 := hcell 0 (by omega)
      refine ⟨by simpa [Addr.add] using World.cell?_spot h0, ?_⟩
      rw [hcell j (by omega)]
      simp [List.getD, hq]
    · intro h0 g hg
      rw [hbl] at h0
      simp [Value.ownBlock] at hg
      subst hg
      have h0 := World.block_lt_of_cell? _ _ (hcell 0 (by omega))
      simp [Addr.add] at h0
      omega
end Go.Proofs.Ytgnmdnmmemdemaa

/- From readings of arguments to typed lists: slices of structs, arrays of bytes. -/
set_option maxRecDepth 100000
set_option linter.unusedVariables false
namespace Go.Proofs.Ytgnmdnmmemdemaa
open Go Go.RowKit Go.Gv Go.ChangeShapes Go.WideShapes Go.ChangeAt Go.Deep

/-- the slice v is the list l, each element s cells -/
def RdE {α : Type} (s : Nat) (cells : α → List Value) (R : Nat → Prop) (w : World) (v : Value) (l : List α) : Prop :=
  (l = [] ∧ ∃ ao cap, v = .slice ao 0 cap) ∨
  ∃ g o cap, R g ∧ v = .slice (some ⟨g, o, none⟩) l.length cap ∧ 0 < l.length ∧ l.length ≤ cap ∧ cap ≤ maxLen ∧ ∀ i (h : i < l.length), ∀ j u, (cells l[i])[j]? = some u → w.cell? ⟨g, o + i * s + j, none⟩ = some u

theorem RdE.mod {α : Type} {s : Nat} {cells : α → List Value} {R S : Nat → Prop} {w w' : World} {v : Value} {l : List α} (h : RdE s cells R w v l) (hm : Mod S w w') (hs : ∀ k, R k → S k → False) : RdE s cells R w' v l := by
  rcases h with h | ⟨g, o, cap, h1, h2, h3, h4, h5, h6⟩
  · exact .inl h
  · exact .inr ⟨g, o, cap, h1, h2, h3, h4, h5, fun i hi j u hu => hm.cell (h6 i hi j u hu) (hs g h1)⟩

section
variable {H : Type} {enc : TypeId × Value → H} {W : World}

theorem trod_arr {t e : TypeId} {n fuel : Nat} {cs : List Value} {x : DataW H × List MemPlace} (ht : Try.prog.underlying t = some (.array n e)) (he : Try.prog.underlying e = some (.int .u8)) (hce : Try.prog.cellsOf e = 1) (hcs : Try.prog.cellsOf t = n)
    (h : DataW.trod enc Try.prog W 0 (fun _ => true) true fuel t cs = some x) : ∃ hs : List Int, cs = hs.map bv ∧ Bytes hs ∧ hs.length = n := by
  obtain ⟨xs, m, _, rfl, hl, hn, hx⟩ := DataW.trod_array ht h
  rw [hcs] at hl
  have key : ∀ i (hi : i < n), ∃ q : Int, cs[i]'(by omega) = bv q ∧ 0 ≤ q ∧ q < 256 := by
    intro i hi
    have := hx i hi
    rw [hce, Nat.mul_one, List.getElem?_eq_getElem (by omega)] at this
    have e1 : (cs.drop i).take 1 = [cs[i]'(by omega)] := by
      rw [List.drop_eq_getElem_cons (by omega : i < cs.length)]; rfl
    rw [e1] at this
    obtain ⟨q, e2, _, hw⟩ := DataW.trod_int he this
    simp at e2
    have hb := bounds_u8 hw
    exact ⟨q, e2, by omega, by omega⟩
  refine ⟨cs.map (intOf ·), ?_, ?_, by simp [hl]⟩
  · apply List.ext_getElem
    · simp
    · intro i h1 h2
      obtain ⟨q, hq, _⟩ := key i (by omega)
      simp [hq, intOf]
  · intro y hy
    obtain ⟨u, hu, rfl⟩ := List.mem_map.1 hy
    obtain ⟨i, hi, rfl⟩ := List.getElem_of_mem hu
    obtain ⟨q, hq, h0, h1⟩ := key i (by omega)
    rw [hq]
    exact ⟨h0, h1⟩

end
end Go.Proofs.Ytgnmdnmmemdemaa

/- Elements of slices: their addresses, appending one that has many cells. No program here. -/
set_option linter.unusedVariables false
namespace Go.Gv
open Go Go.RowKit

section
variable {P : Program} {o : Oper} {a : Act} {w w' : World}
theorem ex_idxS {T e : TypeId} {x y : Operand} {g off n cap i s : Nat} {k : IntKind} (ho : o.op = .indexAddr T x y) (hu : P.underlying T = some (.slice e)) (hs : (P.info? e).map (·.size) = some s) (hx : a.eval x = .slice (some ⟨g, off, none⟩) n cap) (hy : a.eval y = .int k (i : Int)) (hi : i < n) :
    (execOp a.eval o).run P w = .ok (.value (.pointer (some ⟨g, off + i * s, none⟩))) w := by
  have hsz : (sizeOf e).run P w = .ok s w := by
    cases hq : P.info? e with
    | none => rw [hq] at hs; cases hs
    | some i => rw [hq] at hs; simp [sizeOf, typeInfo, hq]; exact Option.some.inj hs
  unfold execOp
  simp [ho, hx, hy, Instr.indexAt, asIntOf, run_underlying hu, hsz, hi, add_mk]
theorem ex_buildS1 {T e : TypeId} {y : Operand} {cs : List Value} {s : Nat} {zc : List Value} (ho : o.op = .buildSlice T 1 #[(0, y)]) (hu : P.underlying T = some (.slice e)) (hie : (P.info? e).map (fun i => (i.size, i.zero)) = some (s, some (.agg zc.toArray))) (hz : zc.length = s) (h0 : 0 < s) (hb : s ≤ 1000) (hy : a.eval y = .agg cs.toArray) (hl : cs.length = s) :
    (execOp a.eval o).run P w = .ok (.value (.slice (some ⟨w.heap.size, 0, none⟩) 1 1)) (w.alloc (.cells cs.toArray e)) := by
  cases hq : P.info? e with
  | none => rw [hq] at hie; cases hie
  | some ie =>
    rw [hq] at hie
    have e0 := Option.some.inj hie
    have e1 : ie.size = s := congrArg Prod.fst e0
    have e2 : ie.zero = some (.agg zc.toArray) := congrArg Prod.snd e0
    have hf : Instr.fill (fun i => some (i * ie.size, ie.size)) ((Array.range (1 * ie.size)).map ((Value.agg zc.toArray).cells[· % (Value.agg zc.toArray).cells.size]!)) (#[((0 : Nat), a.eval y)] : Array (Nat × Value)).toList = some cs.toArray := by
      rw [hy, e1]
      unfold Instr.fill
      simp only
      have hsz : ((Array.range (1 * s)).map ((Value.agg zc.toArray).cells[· % (Value.agg zc.toArray).cells.size]!)).size = s := by simp
      rw [if_neg (by simp [Value.cells, hl])]
      unfold Instr.fill
      congr 1
      have := foldl_lay (0 * s) cs ((Array.range (1 * s)).map ((Value.agg zc.toArray).cells[· % (Value.agg zc.toArray).cells.size]!)).toList (by simp [hl])
      simp only [Value.cells] at this ⊢
      simp only [Array.toArray_toList] at this
      rw [← Array.toList_zipIdx] at this
      simp only [Array.foldl_toList] at this
      rw [this]
      simp [hl]
    have hr := run_buildSlice (P := P) w T e 1 (#[((0 : Nat), a.eval y)] : Array (Nat × Value)) cs.toArray ie (.agg zc.toArray) hu hq e2 (by rw [e1]; omega) (by rw [e1]; omega) hf
    unfold execOp
    simp only [ho, Sem.run_bind, List.map_toArray, List.map_cons, List.map_nil, hr, Result.andThen_ok, Sem.run_pure]
theorem ex_append {t : TypeId} {x y : Operand} {vx vy v : Value} (ho : o.op = .call { callee := .builtin .append, args := #[x, y], argTypes := #[t, t] }) (hx : a.eval x = vx) (hy : a.eval y = vy) (hr : (Builtin.append_ #[t, t] o.type #[vx, vy]).run P w = .ok v w') : (execOp a.eval o).run P w = .ok (.value v) w' := by
  unfold execOp
  simp only [ho, resolve, invoke, builtin, Sem.run_bind, Sem.run_pure, Result.andThen_ok, List.map_toArray, List.map_cons, List.map_nil, hx, hy, hr]
end
end Go.Gv

/- Arithmetic of single operations; elements of arrays. No program here. -/
set_option linter.unusedVariables false
namespace Go.Gv
open Go Go.RowKit

section
variable {P : Program} {o : Oper} {a : Act} {w w' : World} {t : TypeId} {k : IntKind}
theorem run_xor_i (x y : Int) : (binOp .xor t (.int k x) (.int k y)).run P w = .ok (.int k (bits .xor k x y)) w := by simp [binOp, Op.intBits, bits]
theorem run_and_i (x y : Int) : (binOp .and t (.int k x) (.int k y)).run P w = .ok (.int k (bits .and k x y)) w := by simp [binOp, Op.intBits, bits]
theorem run_or_i (x y : Int) : (binOp .or t (.int k x) (.int k y)).run P w = .ok (.int k (bits .or k x y)) w := by simp [binOp, Op.intBits, bits]
theorem run_mul_i (x y : Int) : (binOp .mul t (.int k x) (.int k y)).run P w = .ok (.int k (k.wrap (x * y))) w := by simp [binOp, Op.intArith]
theorem run_shr_n (n : Nat) (x : Int) (hn : n ≤ k.bits) : (binOp .shr t (.int k x) (.int .u64 (n : Int))).run P w = .ok (.int k (x / 2 ^ n)) w := by
  simp [binOp, Op.shift, Nat.min_eq_left hn]
  rw [if_neg (by omega), Int.fdiv_eq_ediv_of_nonneg _ (Int.le_of_lt (Int.pow_pos (show (0 : Int) < 2 by decide)))]
theorem run_shl_n (n : Nat) (x : Int) (hn : n ≤ k.bits) : (binOp .shl t (.int k x) (.int .u64 (n : Int))).run P w = .ok (.int k (k.wrap (x * 2 ^ n))) w := by
  simp [binOp, Op.shift, Nat.min_eq_left hn]
  intro h
  omega
theorem ex_idxA {T e : TypeId} {x y : Operand} {g off i s n : Nat} {k : IntKind} (ho : o.op = .indexAddr T x y) (hu : P.underlying T = some (.array n e)) (hn : 1 < n) (hs : (P.info? e).map (·.size) = some s) (hx : a.eval x = .pointer (some ⟨g, off, none⟩)) (hy : a.eval y = .int k (i : Int)) (hi : i < n) :
    (execOp a.eval o).run P w = .ok (.value (.pointer (some ⟨g, off + i * s, none⟩))) w := by
  have hsz : (sizeOf e).run P w = .ok s w := by
    cases hq : P.info? e with
    | none => rw [hq] at hs; cases hs
    | some i => rw [hq] at hs; simp [sizeOf, typeInfo, hq]; exact Option.some.inj hs
  unfold execOp
  simp [ho, hx, hy, Instr.indexAt, asIntOf, run_underlying hu, hsz, hi, add_mk, Instr.sureAddr]
theorem ex_sliceLo {T e : TypeId} {x y : Operand} {g off n cap l : Nat} {k : IntKind} (ho : o.op = .slice T x (some y) none none) (hu : P.underlying T = some (.slice e)) (hs : (P.info? e).map (·.size) = some 1) (hx : a.eval x = .slice (some ⟨g, off, none⟩) n cap) (hy : a.eval y = .int k (l : Int)) (hl : l ≤ n) (hc : l < cap) :
    (execOp a.eval o).run P w = .ok (.value (.slice (some ⟨g, off + l, none⟩) (n - l) (cap - l))) w := by
  have hsz : (sizeOf e).run P w = .ok 1 w := by
    cases hq : P.info? e with
    | none => rw [hq] at hs; cases hs
    | some i => rw [hq] at hs; simp [sizeOf, typeInfo, hq]; exact Option.some.inj hs
  have hne : ¬ cap = l := by omega
  unfold execOp
  simp [ho, hx, hy, Instr.sliceAt, Instr.slice, Instr.sliceBounds, Instr.sliceBound, asIntOf, run_underlying hu, hsz, hl, add_mk, hne]
theorem ex_buildC {t : TypeId} {ps : Array (Nat × Operand)} {parts : List (Nat × Value)} {r : Array Value} (ho : o.op = .build t ps) (hp : (ps.map fun (i, x) => (i, a.eval x)).toList = parts) (h : P.built t parts = some r) : (execOp a.eval o).run P w = .ok (.value (.agg r)) w := by
  have hr := run_build (P := P) w t (ps.map fun (i, x) => (i, a.eval x)) r (by rw [hp]; exact h)
  unfold execOp
  simp only [ho, Sem.run_bind, hr, Result.andThen_ok, Sem.run_pure]
theorem ex_convI {src dst : TypeId} {x : Operand} {k k' : IntKind} {n : Int} (ho : o.op = .convert src dst x) (hs : (P.underlying src).isSome = true) (hd : P.underlying dst = some (.int k')) (hx : a.eval x = .int k n) : (execOp a.eval o).run P w = .ok (.value (.int k' (k'.wrap n))) w := by
  unfold execOp
  cases hq : P.underlying src with
  | none => rw [hq] at hs; cases hs
  | some d => simp [ho, hx, convert, run_underlying hd, run_underlying hq, Conv.intToInt]
theorem ex_notx {T : TypeId} {x : Operand} {k : IntKind} {n : Int} (ho : o.op = .unOp .xor T x) (hx : a.eval x = .int k n) : (execOp a.eval o).run P w = .ok (.value (.int k (bits .xor k (if k.signed = true then -1 else k.max) n))) w := by
  unfold execOp
  simp [ho, hx, Op.unary, bits, Op.intBits]
end
end Go.Gv

/- Single operations for wp_region_Q: calls of function values, parts of results, slices' rows, appends of things. No program here. -/
set_option linter.unusedVariables false
namespace Go.Gv
open Go Go.RowKit

section
variable {P : Program} {ops : Array Oper} {Q : Exit → Act → World → Prop} {i : Nat} {o : Oper} {a : Act} {w : World} {KQ : Value → World → Prop}
theorem ex_binE {op : BinOp} {t u : TypeId} {x y : Operand} {vx vy v v' : Value} (ho : o.op = .binOp op t x y u) (hx : a.eval x = vx) (hy : a.eval y = vy) (hg : (eqGuard op t x y vx vy).run P w = .ok () w) (hr : (binOp op t vx vy).run P w = .ok v w) (he : v = v') : (execOp a.eval o).run P w = .ok (.value v') w := by
  subst he; exact ex_bin ho hx hy hg hr
theorem ex_pickE {c x y : Operand} {b : Bool} {vx vy v : Value} (ho : o.op = .pick c x y) (hc : a.eval c = .bool b) (hx : a.eval x = vx) (hy : a.eval y = vy) (he : (if b then vx else vy) = v) : (execOp a.eval o).run P w = .ok (.value v) w := by
  subst he; exact ex_pick ho hc hx hy
theorem add_zero (a : Addr) : a.add 0 = a := by
  unfold Addr.add
  split <;> simp_all
/-- one of the chain appends things -/
theorem qc_appS {α : Type} {A : Rep α} {e t : TypeId} {R E R2 : Nat → Prop} {v xv : Value} {l new : List α} {s x : Operand} (ho : ops[i]? = some o) (hw : Region.wanted o (yielded ops a.tmps) = true) (hop : o.op = .call { callee := .builtin .append, args := #[s, x], argTypes := #[t, t] }) (z : Value) (bytes : Nat)
    (ht : P.underlying t = some (.slice e)) (hinfo : (P.info? e).map (fun i => (i.zero, i.size, i.bytes)) = some (some z, A.sz, bytes)) (hzs : z.cells.size = A.sz) (hzE : ∀ u ∈ z.cells.toList, u.oneCell' = true)
    (hs : a.eval s = v) (hx : a.eval x = xv) (hown : OwS A e R E w v l) (hrd : RdS A R2 w xv new) (hd : ∀ k, R2 k → R k → False) (hbytes : (l.length + new.length) * bytes ≤ 140737488355328) (h63 : l.length + new.length ≤ maxLen)
    (h : ∀ ao cap w', OwS A e (fun k => R k ∨ (w.heap.size ≤ k ∧ k < w'.heap.size)) (fun k => E k ∨ R2 k) w' (.slice ao (l.length + new.length) cap) (l ++ new) → Mod R w w' → KQ (.slice ao (l.length + new.length) cap) w') : wpOp P ops Q i (fun a' w' => ∃ v, a' = a.put o.dst v ∧ KQ v w') a w := by
  obtain ⟨ao, cap, w', hr, h1, h2⟩ := run_appS (P := P) w t o.type e z bytes ht hinfo hzs hzE hown hrd (fun k hk he => by obtain ⟨_, _, _, _, h5⟩ := hown; exact hd k hk (h5 k he)) hbytes h63
  exact qc_run ho hw (ex_append hop hs hx hr) (h ao cap w' h1 h2)
/-- one of the chain makes a row of one thing -/
theorem qc_buildS {e t : TypeId} {y : Operand} {cs zc : List Value} {sz : Nat} (ho : ops[i]? = some o) (hw : Region.wanted o (yielded ops a.tmps) = true) (hop : o.op = .buildSlice t 1 #[(0, y)]) (hu : P.underlying t = some (.slice e)) (hie : (P.info? e).map (fun i => (i.size, i.zero)) = some (sz, some (.agg zc.toArray))) (hz : zc.length = sz) (h0 : 0 < sz) (hb : sz ≤ 1000) (hy : a.eval y = .agg cs.toArray) (hl : cs.length = sz)
    (h : ∀ w', Cs w' w.heap.size cs.toArray e → Mod (fun _ => False) w w' → KQ (.slice (some ⟨w.heap.size, 0, none⟩) 1 1) w') : wpOp P ops Q i (fun a' w' => ∃ v, a' = a.put o.dst v ∧ KQ v w') a w :=
  qc_run ho hw (ex_buildS1 hop hu hie hz h0 hb hy hl) (h _ (Cs.new _ _ _) ((Mod.refl _ _).alloc _))
end
end Go.Gv

/- Short forms for printed walks: facts carried over a whole chain at once, single operations, regions without new variables. No program here. -/
set_option linter.unusedVariables false
namespace Go.Gv
open Go Go.RowKit

theorem hid {p : Prop} (h : p) : Hid p := h
/-- a chain's steps, told at once: S: what of old they may turn -/
theorem Mod.new {S : Nat → Prop} {w a : World} (h : Mod (fun j => w.heap.size ≤ j) w a) : Mod S w a := h.mono fun k hk h => absurd hk (Nat.not_lt.2 h)
theorem Mod.goR {S R : Nat → Prop} {w a c : World} (h : Mod S w a) (hr : Mod (fun j => w.heap.size ≤ j ∧ R j) a c) : Mod S w c :=
  h.trans hr fun k hk h => absurd hk (Nat.not_lt.2 h.1)
theorem Mod.goM {S T R : Nat → Prop} {w a b c : World} (h : Mod S w a) (hm : Mod T a b) (hr : Mod (fun j => w.heap.size ≤ j ∧ R j) b c) (hs : ∀ k, k < w.heap.size → T k → S k) : Mod S w c :=
  (h.trans hm hs).goR hr
theorem Mod.go {S R : Nat → Prop} {w a b c : World} (h : Mod S w a) (hm : Mod (fun _ => False) a b) (hr : Mod (fun j => w.heap.size ≤ j ∧ R j) b c) : Mod S w c :=
  h.goM hm hr fun _ _ h => h.elim
theorem Mod.old {w a : World} (h : Mod (fun j => (j < w.heap.size ∧ False) ∨ w.heap.size ≤ j) w a) : Mod (fun j => w.heap.size ≤ j) w a := h.mono fun _ _ h => h.elim (fun h => h.2.elim) (fun h => h)
theorem chv {v x : Value} (h : some v = some x) : x = v := (Option.some.inj h).symm
theorem list_eta {vs : List Value} {n : Nat} (hl : vs.length = n) : vs = (List.range n).map fun i => vs.getD i undef := by
  subst hl
  refine List.ext_getElem? fun i => ?_
  rcases Nat.lt_or_ge i vs.length with h | h
  · simp [List.getD_eq_getElem?_getD, h]
  · simp [h]
theorem getq {vs : List Value} {n p : Nat} (hl : vs.length = n) (h : p < n) : vs[p]? = some (vs.getD p undef) := by
  subst hl
  simp [List.getD_eq_getElem?_getD, h]
theorem getv {vs : List Value} {p : Nat} {v : Value} (h : vs[p]? = some v) : vs.getD p undef = v := by
  rw [List.getD_eq_getElem?_getD, h]
  rfl
section
variable {β : Type} {f : Operand → β}
theorem args0 : (#[] : Array Operand).map f = #[] := by simp
theorem args1 {x1 : Operand} {a1 : β} (h1 : f x1 = a1) : #[x1].map f = #[a1] := by rw [← h1]; simp
theorem args2 {x1 x2 : Operand} {a1 a2 : β} (h1 : f x1 = a1) (h2 : f x2 = a2) : #[x1, x2].map f = #[a1, a2] := by rw [← h1, ← h2]; simp
theorem args3 {x1 x2 x3 : Operand} {a1 a2 a3 : β} (h1 : f x1 = a1) (h2 : f x2 = a2) (h3 : f x3 = a3) : #[x1, x2, x3].map f = #[a1, a2, a3] := by rw [← h1, ← h2, ← h3]; simp
theorem args4 {x1 x2 x3 x4 : Operand} {a1 a2 a3 a4 : β} (h1 : f x1 = a1) (h2 : f x2 = a2) (h3 : f x3 = a3) (h4 : f x4 = a4) : #[x1, x2, x3, x4].map f = #[a1, a2, a3, a4] := by rw [← h1, ← h2, ← h3, ← h4]; simp
end
section
variable {P : Program} {ops : Array Oper} {Q : Exit → Act → World → Prop} {a0 : Act} {w0 : World} {n : Nat} {ss : List Nat} {S0 : Nat → Prop} {SS : Nat → Nat → Prop} {l : List QPred} {c : List Nat} {al : List QRow} {i : Nat} {o : Oper}
/-- what is known where an operation beside the chain stands -/
structure StE (ops : Array Oper) (a0 : Act) (w0 : World) (n : Nat) (ss : List Nat) (S0 : Nat → Prop) (SS : Nat → Nat → Prop) (l : List QPred) (c : List Nat) (i : Nat) (o : Oper) (Z : Nat → Prop) (t : List Value) (a : Act) (w : World) : Prop where
  inZ : ∀ j, Z j → w0.heap.size ≤ j ∧ j < w.heap.size
  m : Mod (fun j => (j < w0.heap.size ∧ S0 j) ∨ w0.heap.size ≤ j) w0 w
  m0 : Mod (fun j => (j < w0.heap.size ∧ ∃ k, k < t.length ∧ SS k j) ∨ w0.heap.size ≤ j) w0 w
  out : ∀ t, t ∉ ss → a.eval (.tmp t) = a0.eval (.tmp t)
  sz : ∀ s, s < n → s < a.tmps.size
  on : ∀ e ∈ o.after, Region.binds .any e = true → ∀ s, (ops[e.on]?).bind (·.dst) = some s → (l.getD e.on qa) Z t (a.eval (.tmp s)) w
  ub : ∀ k q, c[k]? = some q → (clo ops ops.size (afterOf ops q)).contains i = true → t.length ≤ k
  pre : ∀ j s, (ops[j]?).bind (·.dst) = some s → (clo ops ops.size (afterOf ops j)).contains i = true → a.eval (.tmp s) = a0.eval (.tmp s)
theorem StE.v {Z : Nat → Prop} {t : List Value} {a : Act} {w : World} (E : StE ops a0 w0 n ss S0 SS l c i o Z t a w) {k : Nat} {v : Value} (h : a0.eval (.tmp k) = v) (hk : k ∉ ss := by decide) : a.eval (.tmp k) = v := (E.out k hk).trans h
theorem StE.e {Z : Nat → Prop} {t : List Value} {a : Act} {w : World} (E : StE ops a0 w0 n ss S0 SS l c i o Z t a w) (k : Nat) (g : Ground) {s : Nat} (h : (⟨k, g⟩ : Edge) ∈ o.after := by simp) (hb : Region.binds .any ⟨k, g⟩ = true := by rfl) (hs : (ops[k]?).bind (·.dst) = some s := by rfl) : (l.getD k qa) Z t (a.eval (.tmp s)) w := E.on ⟨k, g⟩ h hb s hs
theorem StE.d {Z : Nat → Prop} {t : List Value} {a : Act} {w : World} (E : StE ops a0 w0 n ss S0 SS l c i o Z t a w) (k : Nat) {s : Nat} (h : (⟨k, .data⟩ : Edge) ∈ o.after := by simp) (hs : (ops[k]?).bind (·.dst) = some s := by rfl) : (l.getD k qa) Z t (a.eval (.tmp s)) w := E.on ⟨k, .data⟩ h rfl s hs
/-- where one of the chain stands -/
structure ChE (ops : Array Oper) (a0 : Act) (n : Nat) (ss : List Nat) (B : Nat) (l : List QPred) (i : Nat) (o : Oper) (Y : Nat → Prop) (Z : Nat → Prop) (t : List Value) (a : Act) (w : World) : Prop where
  YZ : ∀ j, Y j → Z j
  inZ : ∀ j, Z j → B ≤ j ∧ j < w.heap.size
  out : ∀ t, t ∉ ss → a.eval (.tmp t) = a0.eval (.tmp t)
  sz : ∀ s, s < n → s < a.tmps.size
  on : ∀ e ∈ o.after, Region.binds .any e = true → ∀ s, (ops[e.on]?).bind (·.dst) = some s → (l.getD e.on qa) Z t (a.eval (.tmp s)) w
  pre : ∀ j s, (ops[j]?).bind (·.dst) = some s → (clo ops ops.size (afterOf ops j)).contains i = true → a.eval (.tmp s) = a0.eval (.tmp s)
theorem ChE.v {B : Nat} {Y Z : Nat → Prop} {t : List Value} {a : Act} {w : World} (E : ChE ops a0 n ss B l i o Y Z t a w) {k : Nat} {v : Value} (h : a0.eval (.tmp k) = v) (hk : k ∉ ss := by decide) : a.eval (.tmp k) = v := (E.out k hk).trans h
theorem ChE.e {B : Nat} {Y Z : Nat → Prop} {t : List Value} {a : Act} {w : World} (E : ChE ops a0 n ss B l i o Y Z t a w) (k : Nat) (g : Ground) {s : Nat} (h : (⟨k, g⟩ : Edge) ∈ o.after := by simp) (hb : Region.binds .any ⟨k, g⟩ = true := by rfl) (hs : (ops[k]?).bind (·.dst) = some s := by rfl) : (l.getD k qa) Z t (a.eval (.tmp s)) w := E.on ⟨k, g⟩ h hb s hs
theorem ChE.d {B : Nat} {Y Z : Nat → Prop} {t : List Value} {a : Act} {w : World} (E : ChE ops a0 n ss B l i o Y Z t a w) (k : Nat) {s : Nat} (h : (⟨k, .data⟩ : Edge) ∈ o.after := by simp) (hs : (ops[k]?).bind (·.dst) = some s := by rfl) : (l.getD k qa) Z t (a.eval (.tmp s)) w := E.on ⟨k, .data⟩ h rfl s hs
theorem QChain.go {B : Nat} {Y : Nat → Prop} {k : Nat} {t : List Value} {w : World} (h : ∀ Z a, ChE ops a0 n ss B l i o Y Z t a w → wpOp P ops Q i (fun a' w' => ∃ v, a' = a.put o.dst v ∧ QPost P ops Q a0 n ss B S0 SS l al i c k Y t w v w') a w) (ho : ops[i]? = some o := by rfl) : QChain P ops Q a0 n ss B S0 SS l al (i :: c) k Y t w :=
  QChain.cons ho fun Z a h1 h2 h3 h4 h5 h6 => h Z a ⟨h1, h2, h3, h4, h5, h6⟩
theorem stq {v : Value} (hs : ∀ {Z : Nat → Prop} {t : List Value} {a : Act} {w : World}, StE ops a0 w0 n ss S0 SS l c i o Z t a w → (execOp a.eval o).run P w = .ok (.value v) w) (ho : ops[i]? = some o := by rfl) (hg : o.guard = none := by rfl) (hv : l.getD i qa = qi v := by rfl)
    (h : c.contains i = false := by rfl) (h0 : al.find? (fun r => r.a == i) = none := by rfl) (h1 : al.find? (fun r => r.s == i) = none := by rfl) : StepQ P ops Q a0 w0 n ss S0 SS l c al i o :=
  stepq_env h h0 h1 fun Z t a w k1 k2 k3 k4 k5 k6 k7 k8 => qe_run ho (wanted_none hg) (hs ⟨k1, k2, k3, k4, k5, k6, k7, k8⟩) QE.refl (by rw [hv]; rfl)
def gw (vs : List Value) (i : Nat) : Value := vs.getD i undef
theorem gw_eta {vs : List Value} {n : Nat} (hl : vs.length = n) : vs = (List.range n).map fun i => gw vs i := list_eta hl
theorem fvi {Z : Nat → Prop} {t : List Value} {w : World} {vs : List Value} {m : Nat} {x : Value} (hV : ∀ p v, vs[p]? = some v → (l.getD p qa) Z t v w) (hl : vs.length = m) (p : Nat) (hp : p < m := by decide) (he : l.getD p qa = qi x := by rfl) : gw vs p = x := by
  have h := hV p _ (getq hl hp)
  rw [he] at h
  exact h
theorem fvc {Z : Nat → Prop} {t : List Value} {w : World} {vs : List Value} {m k : Nat} {x : Value} (hV : ∀ p v, vs[p]? = some v → (l.getD p qa) Z t v w) (hl : vs.length = m) (p : Nat) (hp : p < m := by decide) (he : l.getD p qa = qv k := by rfl) (hx : t[k]? = some x := by rfl) : gw vs p = x := by
  have h := hV p _ (getq hl hp)
  rw [he] at h
  exact (Option.some.inj (hx.symm.trans h)).symm
/-- a region without new variables -/
theorem wp_region_Q1 {d : Bool} {id : Nat} (n : Nat) (hn : a0.tmps.size = n) (ss : List Nat)
    (S0 : Nat → Prop) (SS : Nat → Nat → Prop) (hSS : ∀ k j, SS k j → S0 j) (l : List QPred) (stable : AllQ w0.heap.size S0 l) (c : List Nat)
    (step : Each (StepQ P ops Q a0 w0 n ss S0 SS l c []) 0 ops.toList)
    (start : ∀ w1, Mod (fun j => w0.heap.size ≤ j) w0 w1 → QChain P ops Q a0 n ss w0.heap.size S0 SS l [] c 0 (fun _ => False) [] w1)
    (hm : P.follows .mixedOrders = true := by kernel_rfl) (hac : backward ops = true := by kernel_rfl) (hss : okSlots ops n ss = true := by kernel_rfl) (hnd : ss.Nodup := by decide) (hlk : linked ops c = true := by kernel_rfl) (hcn : c.Nodup := by decide) (hcs : (c.all fun i => decide (i < ops.size)) = true := by kernel_rfl) : (Code.region id ops d).wp P Q a0 w0 :=
  wp_region_Q n hn hm hac ss hss hnd S0 SS hSS l stable c hlk hcn hcs [] rfl (fun r hr => by cases hr) (fun r hr => by cases hr) (fun r hr => by cases hr) step start
/-- one that turns nothing of old -/
theorem wp_region_Q0 {d : Bool} {id : Nat} (n : Nat) (hn : a0.tmps.size = n) (ss : List Nat) (l : List QPred) (stable : AllQ w0.heap.size (fun _ => False) l) (c : List Nat)
    (step : Each (StepQ P ops Q a0 w0 n ss (fun _ => False) (fun _ _ => False) l c []) 0 ops.toList)
    (start : ∀ w1, Mod (fun j => w0.heap.size ≤ j) w0 w1 → QChain P ops Q a0 n ss w0.heap.size (fun _ => False) (fun _ _ => False) l [] c 0 (fun _ => False) [] w1)
    (hm : P.follows .mixedOrders = true := by kernel_rfl) (hac : backward ops = true := by kernel_rfl) (hss : okSlots ops n ss = true := by kernel_rfl) (hnd : ss.Nodup := by decide) (hlk : linked ops c = true := by kernel_rfl) (hcn : c.Nodup := by decide) (hcs : (c.all fun i => decide (i < ops.size)) = true := by kernel_rfl) : (Code.region id ops d).wp P Q a0 w0 :=
  wp_region_Q1 n hn ss _ _ (fun _ _ h => h) l stable c step start hm hac hss hnd hlk hcn hcs
theorem qc_callF {KQ : Value → World → Prop} {a : Act} {w : World} {F : FuncId} {xs : Array Operand} {ts : Array TypeId} {args : Array Value} {post : Ending → World → Prop} {fn : Func} (ho : ops[i]? = some o) (hw : Region.wanted o (yielded ops a.tmps) = true) (hop : o.op = .call { callee := .value (.func F), args := xs, argTypes := ts })
    (hf : P.funcs[F]? = some fn) (ha : xs.map a.eval = args) (hcl : Calls P F args w post) (hp : ∀ e w', post e w' → ∃ v, e = .returned v ∧ KQ v w') (hn : (fn.name == "runtime.NumGoroutine") = false := by kernel_rfl) (hb : fn.body.isNone = false := by kernel_rfl) : wpOp P ops Q i (fun a' w' => ∃ v, a' = a.put o.dst v ∧ KQ v w') a w :=
  qc_call ho hw (by rw [ex_callF hop hf hn hb, ha]) hcl hp
theorem qe_callF {B : Nat} {Z : Nat → Prop} {t : List Value} {a : Act} {w : World} {F : FuncId} {xs : Array Operand} {ts : Array TypeId} {args : Array Value} {post : Ending → World → Prop} {fn : Func} (ho : ops[i]? = some o) (hw : Region.wanted o (yielded ops a.tmps) = true) (hop : o.op = .call { callee := .value (.func F), args := xs, argTypes := ts })
    (hf : P.funcs[F]? = some fn) (ha : xs.map a.eval = args) (hcl : Calls P F args w post) (hp : ∀ e w', post e w' → ∃ v, e = .returned v ∧ QE B Z w w' ∧ (l.getD i qa) Z t v w') (hn : (fn.name == "runtime.NumGoroutine") = false := by kernel_rfl) (hb : fn.body.isNone = false := by kernel_rfl) : wpOp P ops Q i (QJ B l Z i o t a w) a w :=
  qe_call ho hw (by rw [ex_callF hop hf hn hb, ha]) hcl hp
end
end Go.Gv

/- gavelref01: numbers and rows as bytes. -/
set_option maxRecDepth 100000
set_option linter.unusedVariables false
namespace Go.Proofs.Ytgnmdnmmemdemaa
open Go Go.RowKit Go.Gv

/-- the blocks of what an append gave: those before, or new ones since w -/
theorem AppB.trans {w0 w w' : World} {v v' : Value} {bs : List Int} (h : AppB w v bs v' w') (hm : Mod (fun _ => False) w0 w) (hf : Fresh w0 v) : Mod (fun _ => False) w0 w' ∧ Fresh w0 v' := by
  obtain ⟨h1, h2, h3⟩ := h
  refine ⟨hm.trans h2 (fun i hi hk => by have := hf i hk.symm; omega), fun g hg => ?_⟩
  rcases h3 with h3 | ⟨k, h3, hk⟩
  · exact hf g (h3 ▸ hg)
  · rw [h3] at hg
    obtain rfl : k = g := by simpa using hg
    exact Nat.le_trans hm.size hk

theorem RefNum_any (n : Nat) (hn : n < U64) (w : World) :
    Calls Try.prog 84 #[.int .u64 n] w fun e w' => ∃ v', e = .returned v' ∧ OwnB w' v' (encN n) ∧ Fresh w v' ∧ Mod (fun _ => False) w w' := by
  have hen := encN_len10 hn
  have HN := Lib.hid hn
  clear hn
  go_enter Try.func84, Try.ntmps84
  go_wp2
  go_loopw [0, 3] (fun t o wr => ∃ (m : Nat) (bs' : List Int) (ao : Option Addr) (cap : Nat), t = .int .u64 m ∧ m ≤ n ∧ bs' ++ encN m = encN n ∧ o = .slice ao bs'.length cap ∧ OwnB wr (.slice ao bs'.length cap) bs' ∧ Fresh w (.slice ao bs'.length cap) ∧ Mod (fun _ => False) w wr) (fun t _ _ => (intOf t).toNat)
  case atStart => exact ⟨n, [], none, 0, rfl, Nat.le_refl _, rfl, rfl, OwnB.nil _, (fun g hg => by cases hg), Mod.refl _ _⟩
  case round =>
    obtain ⟨m, bs', ao, cap, rfl, hm, hbs, rfl, ho, hfr, hmod⟩ := hrel
    have hlen : bs'.length + (encN m).length = (encN n).length := by have := congrArg List.length hbs; simpa using this
    have hpos := encN_pos m
    have hroom : bs'.length + 1 ≤ Room := by unfold Room; omega
    have Hbs := Lib.hid hbs
    have Hfr := Lib.hid hfr
    have Hm := Lib.hid hmod
    have Hr := Lib.hid hroom
    have HO := Lib.hid ho
    clear hbs hfr hmod hlen hroom hpos hen ho
    have hdv : IntKind.u64.wrap ((m : Int) / 128) = (m : Int) / 128 := by
      have := HN.out
      unfold U64 at this
      simp only [IntKind.wrap, IntKind.bits, IntKind.signed]; simp; omega
    by_cases h128 : (128 : Int) ≤ m
    · go_wp2_with (at_builtin; go_must (refine wpList_appB rfl (.tmp 6) (.tmp 11) rfl rfl (HO.out.alloc _) (new := [(m : Int) % 128 + 128]) rfl (RdB_one _ (by omega) (by omega) _) Hr.out ?_))
      intro ao1 cap1 w1 happ
      have hT := AppB.trans happ (Hm.out.alloc _) Hfr.out
      have HT := Lib.hid hT
      have HO1 := Lib.hid happ.1
      clear hT happ
      go_wp2
      go_roundw
      case rel => exact ⟨m / 128, bs' ++ [(m : Int) % 128 + 128], ao1, cap1, by go_num, by omega, by have := Hbs.out; rw [encN_ge (by omega)] at this; simpa using this, by simp, by simpa using HO1.out, by simpa using HT.out.2, HT.out.1⟩
      case measure => simp [intOf]; omega
    · go_wp2_with (at_builtin; go_must (refine wpList_appB rfl (.tmp 15) (.tmp 18) rfl rfl (HO.out.alloc _) (new := [(m : Int)]) rfl (RdB_one _ (by omega) (by omega) _) Hr.out ?_))
      intro ao1 cap1 w1 happ
      have hT := AppB.trans happ (Hm.out.alloc _) Hfr.out
      have HT := Lib.hid hT
      have HO1 := Lib.hid happ.1
      clear hT happ
      go_wp2
      go_ret
      have hb := Hbs.out
      rw [encN_lt (by omega)] at hb
      rw [← hb]
      exact ⟨_, rfl, HO1.out, HT.out.2, HT.out.1⟩

theorem RefNum_R (n : Nat) (hn : n < U64) (w : World) :
    Calls Try.prog 84 #[.int .u64 n] w fun e w' => ∃ v', e = .returned v' ∧ OwR (New w w') 10 w' v' (encN n) ∧ Mod (fun _ => False) w w' :=
  (RefNum_any n hn w).mono fun _ _ ⟨v', he, ho, hf, hm⟩ => ⟨v', he, OwR_of 10 ho hf (encN_len10 hn).2, hm⟩

theorem RefInt_R (n : Int) (hn : -9223372036854775808 ≤ n ∧ n ≤ 9223372036854775807) (w : World) :
    Calls Try.prog 67 #[.int .i64 n] w fun e w' => ∃ v', e = .returned v' ∧ OwR (New w w') 10 w' v' (encI n) ∧ Mod (fun _ => False) w w' := by
  by_cases h0 : 0 ≤ n
  · obtain ⟨k, rfl⟩ := Int.eq_ofNat_of_zero_le h0
    rw [encI_nat]
    have K := Lib.hid (RefNum_R k (by unfold U64; omega))
    go_enter Try.func67, Try.ntmps67
    go_wp2_with (go_at_call 84; go_must (refine (K.out _).mono ?_); rintro e w' ⟨v', rfl, h1, h2⟩; have H1 := Lib.hid h1; have H2 := Lib.hid h2; clear h1 h2)
    go_ret
    exact ⟨v', rfl, H1.out, H2.out⟩
  · have e : encI n = encN 0 := by unfold encI; congr 1; omega
    rw [e]
    have K := Lib.hid (RefNum_R 0 (by unfold U64; omega))
    clear e
    go_enter Try.func67, Try.ntmps67
    go_wp2_with (go_at_call 84; go_must (refine (K.out _).mono ?_); rintro e w' ⟨v', rfl, h1, h2⟩; have H1 := Lib.hid h1; have H2 := Lib.hid h2; clear h1 h2)
    go_ret
    exact ⟨v', rfl, H1.out, H2.out⟩

theorem RefRow_R {R : Nat → Prop} {N : Nat} {v : Value} {bs : List Int} {w : World} (hr : RdR R N w v bs) (hN : N ≤ 900000) :
    Calls Try.prog 66 #[v] w fun e w' => ∃ v', e = .returned v' ∧ OwR (New w w') (N + 10) w' v' (encN bs.length ++ bs) ∧ Mod (fun _ => False) w w' := by
  obtain ⟨ao, cap, rfl⟩ := hr.shape
  have K := Lib.hid (RefInt_R bs.length (by have := hr.2.2; omega))
  have HR := Lib.hid hr
  have HL := Lib.hid (show bs.length < U64 by have := hr.2.2; unfold U64; omega)
  clear hr
  go_enter Try.func66, Try.ntmps66
  go_wp2_with (first
    | (go_at_call 67; go_must (refine (K.out _).mono ?_); rintro e w1 ⟨v1, rfl, h1, h2⟩; rw [encI_nat] at h1; have z1 := h2.size; have H1 := Lib.hid h1; have H2 := Lib.hid h2; have HR1 := Lib.hid (HR.out.mod h2 (fun _ _ h => h)); clear h1 h2)
    | (at_builtin; go_must (refine wpList_appR rfl (.tmp 5) (.tmp 6) rfl rfl H1.out rfl HR1.out (by omega) ?_)))
  intro ao2 cap2 w2 ho hm
  have z2 := hm.size
  have HO := Lib.hid ho
  have HM := Lib.hid hm
  clear ho hm
  go_wp2
  go_ret
  exact ⟨_, rfl, HO.out.widen (fun k h => by unfold New at *; omega) (by omega), H2.out.trans HM.out (fun i hi h => by unfold New at h; omega)⟩
end Go.Proofs.Ytgnmdnmmemdemaa

/- gavelref01.join: bytes, one behind the other; a region that joins what calls answer. -/
set_option maxRecDepth 100000
set_option linter.unusedVariables false
namespace Go.Gv
open Go Go.RowKit
section
variable {P : Program} {o : Oper} {a : Act} {w w' : World}
/-- a row of slices is made -/
theorem ex_buildSl {ts T : TypeId} {n : Nat} {parts : Array (Nat × Operand)} (ho : o.op = .buildSlice ts n parts) (hu : P.underlying ts = some (.slice T)) (hie : (P.info? T).map (fun i => (i.size, i.zero)) = some (1, some (.slice none 0 0))) (hn : n ≠ 0 ∧ n ≤ 1000) {C : Array Value}
    (hf : Instr.fill (fun i => some (i * 1, 1)) ((Array.range (n * 1)).map (#[Value.slice none 0 0][· % 1]!)) (parts.map fun (i, x) => (i, a.eval x)).toList = some C) :
    (execOp a.eval o).run P w = .ok (.value (.slice (some ⟨w.heap.size, 0, none⟩) n n)) (w.alloc (.cells C T)) := by
  cases hq : P.info? T with
  | none => rw [hq] at hie; cases hie
  | some ie =>
    rw [hq] at hie
    have e := Option.some.inj hie
    have e1 : ie.size = 1 := congrArg Prod.fst e
    have e2 : ie.zero = some (.slice none 0 0) := congrArg Prod.snd e
    have hr := run_buildSlice (P := P) w ts T n (parts.map fun (i, x) => (i, a.eval x)) C ie (.slice none 0 0) hu hq e2 (by rw [e1]; omega) (by rw [e1]; omega) (by rw [e1]; exact hf)
    unfold execOp
    simp only [ho, Sem.run_bind, hr, Result.andThen_ok, Sem.run_pure]
end
/-- marks turn no cell -/
theorem Marked.cell {B : Nat} {T8 : TypeId} {w w' : World} (hm : Marked B T8 w w') {p : Addr} {u : Value} (h : w.cell? p = some u) : w'.cell? p = some u := by
  have hlt := World.block_lt_of_cell? _ _ h
  rcases hm.block p.block hlt with h1 | ⟨-, C, m, h1, h2⟩
  · exact (World.cell?_of_block h1).trans h
  · unfold World.cell? at h ⊢
    rw [h1] at h
    rw [h2]
    exact h
theorem Rd.cells {s n : Nat} {w w' : World} {v : Value} {cs : List Value} (h : Rd s w v n cs) (hc : ∀ p u, w.cell? p = some u → w'.cell? p = some u) : Rd s w' v n cs := by
  obtain ⟨hl, ao, cap, rfl, h1, h2, h3, h4⟩ := h
  exact ⟨hl, ao, cap, rfl, h1, h2, h3, fun x hx j u hu => ⟨(h4 x hx j u hu).1, hc _ _ (h4 x hx j u hu).2⟩⟩
theorem Rd.old {s n : Nat} {w : World} {v : Value} {cs : List Value} (hs : 0 < s) (h : Rd s w v n cs) (h0 : 0 < n) : ∀ g, v.ownBlock = some g → g < w.heap.size := by
  rcases h.form hs with ⟨rfl, _⟩ | ⟨g, o, cap, _, rfl, _, _, hl, hc⟩
  · omega
  · intro g' hg
    have e : g = g' := by simpa [Value.ownBlock] using hg
    subst e
    have hlt : 0 < cs.length := by rw [hl]; exact Nat.mul_pos h0 hs
    exact World.block_lt_of_cell? _ _ (hc 0 _ (List.getElem?_eq_getElem hlt))
end Go.Gv
namespace Go.Proofs.Ytgnmdnmmemdemaa
open Go Go.RowKit Go.Gv

theorem RdB.cells {w w' : World} {v : Value} {bs : List Int} (h : RdB w v bs) (hc : ∀ p u, w.cell? p = some u → w'.cell? p = some u) : RdB w' v bs := ⟨h.1, h.2.cells hc⟩
/-- rows of bytes: the outer list, and each row where it lies -/
structure RdJ (w : World) (v : Value) (rs : List (Value × List Int)) : Prop where
  o : Rd 1 w v rs.length (rs.map (·.1))
  f : ∀ p ∈ rs, RdB w p.1 p.2
theorem RdJ.cells {w w' : World} {v : Value} {rs : List (Value × List Int)} (h : RdJ w v rs) (hc : ∀ p u, w.cell? p = some u → w'.cell? p = some u) : RdJ w' v rs := ⟨h.o.cells hc, fun p hp => (h.f p hp).cells hc⟩
theorem RdJ.shape {w : World} {v : Value} {rs : List (Value × List Int)} (h : RdJ w v rs) : ∃ ao cap, v = .slice ao rs.length cap := by
  obtain ⟨_, ao, cap, e, _⟩ := h.o
  exact ⟨ao, cap, e⟩
theorem RdJ.at {w : World} {ao : Option Addr} {n cap : Nat} {rs : List (Value × List Int)} (h : RdJ w (.slice ao n cap) rs) {i : Nat} (hi : i < rs.length) :
    ∃ g o, ao = some ⟨g, o, none⟩ ∧ g < w.heap.size ∧ w.cell? ⟨g, o + i, none⟩ = some rs[i].1 := by
  rcases h.o.form (by decide) with ⟨h0, _⟩ | ⟨g, o, cap', h0, hv, h1, h2, hl, hc⟩
  · omega
  · simp only [Value.slice.injEq] at hv
    obtain ⟨rfl, rfl, rfl⟩ := hv
    exact ⟨g, o, rfl, h.o.old (by decide) h0 g rfl, hc i _ (by simp [List.getElem?_eq_getElem hi])⟩
/-- a new outer list -/
theorem RdJ.new {w : World} {e : TypeId} {rs : List (Value × List Int)} (h : ∀ p ∈ rs, RdB w p.1 p.2) (hl : rs.length ≤ 1000) {C : Array Value} (hC : C = (rs.map (·.1)).toArray) {n : Nat} (hn : n = rs.length) : RdJ (w.alloc (.cells C e)) (.slice (some ⟨w.heap.size, 0, none⟩) n n) rs := by
  subst hC
  subst hn
  refine ⟨Rd.mk (Nat.le_refl _) (by rw [maxLen_val]; omega) (by simp) fun j y hy => ?_, fun p hp => (h p hp).alloc _⟩
  rw [Nat.zero_add, (Cs.new w _ e).cell]
  simpa using hy
def flat (rs : List (Value × List Int)) : List Int := (rs.map (·.2)).flatten
theorem flat_take (rs : List (Value × List Int)) (i : Nat) (h : i < rs.length) : flat (rs.take (i + 1)) = flat (rs.take i) ++ rs[i].2 := by
  unfold flat
  rw [List.take_succ_eq_append_getElem h, List.map_append, List.flatten_append]
  simp
theorem flat_le (rs : List (Value × List Int)) (i : Nat) : (flat (rs.take i)).length ≤ (flat rs).length := by
  conv => rhs; rw [← List.take_append_drop i rs]
  unfold flat
  rw [List.map_append, List.flatten_append, List.length_append]
  omega
set_option maxHeartbeats 4000000 in
theorem Join_any (v : Value) (rs : List (Value × List Int)) (w : World) (h : RdJ w v rs) (hn : rs.length ≤ 1000) (hl : (flat rs).length ≤ 900000) :
    Calls Try.prog 65 #[v] w fun e w' => ∃ v', e = .returned v' ∧ OwR (New w w') (flat rs).length w' v' (flat rs) ∧ Mod (fun _ => False) w w' := by
  have HR1 := Lib.hid h
  have HFL := Lib.hid hl
  obtain ⟨ao, cap, rfl⟩ := h.shape
  clear h hl
  go_enter Try.func65, Try.ntmps65
  go_wp2
  go_loopw [3, 7] (fun t3 t7 wr => ∃ (i : Nat), t7 = .int .i64 i ∧ i ≤ rs.length ∧ OwR (fun k => w.heap.size ≤ k) (flat (rs.take i)).length wr t3 (flat (rs.take i)) ∧ Mod (fun k => w.heap.size ≤ k) w wr) (fun _ t7 _ => rs.length - (intOf t7).toNat)
  case atStart => exact ⟨0, rfl, by omega, ⟨OwnB.nil _, (fun g hg => by cases hg), Nat.le_refl _⟩, Mod.refl _ _⟩
  case round =>
    obtain ⟨wi, rfl⟩ : ∃ x, x = wr := ⟨_, rfl⟩
    obtain ⟨i, rfl, hi, hB, hm⟩ := hrel
    have KB := Lib.hid hB
    have KM := Lib.hid hm
    have zi := hm.size
    clear hB hm
    by_cases hlt : i < rs.length
    · obtain ⟨g, o, rfl, hg, hcell0⟩ := HR1.out.at hlt
      have hcell : wi.cell? ⟨g, o + i, none⟩ = some rs[i].1 := KM.out.cell hcell0 (by show ¬ w.heap.size ≤ g; omega)
      have hrb : RdB w rs[i].1 rs[i].2 := HR1.out.f rs[i] (List.getElem_mem hlt)
      have HRW := Lib.hid (show RdR (fun k => k < w.heap.size) rs[i].2.length wi rs[i].1 rs[i].2 from RdR.mod ⟨hrb, hrb.block_lt, Nat.le_refl _⟩ KM.out (fun k h1 h2 => by omega))
      have HT := Lib.hid (flat_take rs i hlt)
      have hle := flat_le rs (i + 1)
      have hle2 := HFL.out
      rw [HT.out, List.length_append] at hle
      obtain ⟨q, hq⟩ : ∃ q, q = rs[i] := ⟨_, rfl⟩
      rw [← hq] at hcell HRW HT hle
      clear hcell0 hrb hq
      obtain ⟨vi, bi⟩ := q
      obtain ⟨ai, ci, rfl⟩ : ∃ ai ci, vi = .slice ai bi.length ci := HRW.out.shape
      dsimp only at hcell HRW HT hle
      obtain ⟨ab, cb, rfl⟩ := KB.out.shape
      go_wp2_with (at_builtin; go_must (refine wpList_appR rfl (.tmp 10) (.tmp 14) rfl rfl KB.out rfl HRW.out (by omega) ?_))
      intro ao5 cap5 w5 ho5 hm5
      have KB5 := Lib.hid (show OwR (fun k => w.heap.size ≤ k) (flat (rs.take (i + 1))).length w5 _ (flat (rs.take (i + 1))) from by
        rw [HT.out]
        exact ho5.widen (R' := fun k => w.heap.size ≤ k) (fun k h => by unfold New at h; omega) (by rw [List.length_append]; exact Nat.le_refl _))
      have KM5 := Lib.hid (KM.out.trans hm5 (fun k _ h => h))
      clear ho5 hm5 KB KM HT HRW hcell hle hle2
      go_wp2
      go_roundw
      case rel => exact ⟨i + 1, by go_num, by omega, KB5.out, KM5.out⟩
      case measure => first | (simp [intOf]; done) | (simp [intOf]; omega)
    · obtain rfl : i = rs.length := by omega
      have hb := KB.out
      rw [List.take_length] at hb
      have HB := Lib.hid hb
      obtain ⟨ab, cb, rfl⟩ := KB.out.shape
      clear hb KB
      go_wp2
      go_ret
      exact ⟨_, rfl, ⟨HB.out.1, (fun g hg => ⟨HB.out.2.1 g hg, Own.lt HB.out.1 hg⟩), Nat.le_refl _⟩, KM.out.mono (fun k hk h => by omega)⟩
/-- what a call answered, as bytes, as long as the chain has not begun -/
def rdP (bs : List Int) : GPred := fun t v w => t.length = 0 → RdB w v bs
def rowsP (bss : List (List Int)) : GPred := fun t v w => t.length = 0 → ∃ rs, rs.map (·.2) = bss ∧ RdJ w v rs
theorem stillM_cell {B K k : Nat} {w w' : World} (h : StillM B 5 K k w w') {p : Addr} {u : Value} (hc : w.cell? p = some u) : w'.cell? p = some u := by
  rcases h with h | ⟨-, h⟩
  · exact h.cell hc (fun h => h)
  · exact h.cell hc
theorem rdP_stable {S : Nat → Nat → Prop} {B K : Nat} {bs : List Int} : StableG S (StillM B 5 K) (rdP bs) :=
  ⟨fun t v w w' h hr h0 => (h h0).cells (fun p u hu => stillM_cell hr hu), fun t u v w w' h hm h0 => by simp at h0⟩
theorem rowsP_stable {S : Nat → Nat → Prop} {B K : Nat} {bss : List (List Int)} : StableG S (StillM B 5 K) (rowsP bss) :=
  ⟨fun t v w w' h hr h0 => by obtain ⟨rs, h1, h2⟩ := h h0; exact ⟨rs, h1, h2.cells (fun p u hu => stillM_cell hr hu)⟩, fun t u v w w' h hm h0 => by simp at h0⟩
theorem Join_P (v : Value) (bss : List (List Int)) (w : World) {t : List Value} (h : rowsP bss t v w) (h0 : t.length = 0) (hn : bss.length ≤ 1000) (hl : bss.flatten.length ≤ 900000) :
    Calls Try.prog 65 #[v] w fun e w' => ∃ v', e = .returned v' ∧ OwR (New w w') bss.flatten.length w' v' bss.flatten ∧ Mod (fun _ => False) w w' := by
  obtain ⟨rs, rfl, hj⟩ := h h0
  exact Join_any v rs w hj (by simpa using hn) hl
theorem litG.rd {B K : Nat} {bs : List Int} {t : List Value} {v : Value} {w : World} (h : litG B 5 K (bs.map bv).toArray t v w) (hk : t.length ≤ K) (hb : Bytes bs) (hl : bs.length ≤ 1000000) : RdB w v bs := by
  obtain ⟨g, rfl, -, m, -, h4⟩ := h hk
  have e : (bs.map bv).toArray.size = bs.length := by simp
  rw [e]
  refine ⟨hb, Rd.mk (Nat.le_refl _) (by rw [maxLen_val]; omega) (by simp) fun j y hy => ?_⟩
  rw [Nat.zero_add]
  simp only [World.cell?, h4]
  simpa using hy
theorem stillM_T2 {B : Nat} {T8 : TypeId} {K : Nat} {w0 : World} {T : Nat → Prop} (hT : ∀ j, B ≤ j → T j) : ∀ k w w', Mod T w0 w → StillM B T8 K k w w' → Mod T w0 w' := by
  intro k w w' hm h
  rcases h with h | ⟨-, h⟩
  · exact hm.trans h (fun _ _ h => h.elim)
  · refine ⟨h.os.trans hm.os, h.tape.trans hm.tape, h.output.trans hm.output, Nat.le_trans hm.size h.size, fun j hj hn => ?_⟩
    rcases h.block j (Nat.lt_of_lt_of_le hj hm.size) with h1 | ⟨h1, -⟩
    · exact h1.trans (hm.block j hj hn)
    · exact absurd (hT j h1) hn
theorem StillM.obj {B K k : Nat} {w w' : World} (h : StillM B 5 K k w w') {g : Nat} {c : Array Value} {e : TypeId} (hc : Cs w g c e) (he : e ≠ 5) : Cs w' g c e := by
  rcases h with h | ⟨-, h⟩
  · exact hc.mod h (fun h => h)
  · rcases h.block g hc.lt with h1 | ⟨-, C, m, h1, -⟩
    · exact h1.trans hc
    · unfold Cs at hc
      rw [hc] at h1
      cases h1
      exact absurd rfl he
/-- an array's slice -/
theorem ex_sliceArr {P : Program} {o : Oper} {a : Act} {w : World} {T e : TypeId} {x : Operand} {g off n : Nat} (ho : o.op = .slice T x none none none) (hu : P.underlying T = some (.array n e)) (hs : (P.info? e).map (·.size) = some 1) (hx : a.eval x = .pointer (some ⟨g, off, none⟩)) (hn : 0 < n) :
    (execOp a.eval o).run P w = .ok (.value (.slice (some ⟨g, off, none⟩) n n)) w := by
  have hsz : (sizeOf e).run P w = .ok 1 w := by
    cases hq : P.info? e with
    | none => rw [hq] at hs; cases hs
    | some i => rw [hq] at hs; simp [sizeOf, typeInfo, hq]; exact Option.some.inj hs
  unfold execOp
  have h0 : ¬ n = 0 := by omega
  simp [ho, hx, Instr.sliceAt, Instr.slice, Instr.sliceBounds, asIntOf, run_underlying hu, hsz, add_mk, Instr.sureAddr, h0]
end Go.Proofs.Ytgnmdnmmemdemaa

/- Bytes in regions told step by step: appends, rows of rows, strings as bytes, writers' ends. -/
set_option maxRecDepth 100000
set_option linter.unusedVariables false
namespace Go.Proofs.Ytgnmdnmmemdemaa
open Go Go.RowKit Go.Gv

section
variable {ops : Array Oper} {Q : Exit → Act → World → Prop} {i : Nat} {o : Oper} {a : Act} {w : World} {KQ : Value → World → Prop} {B : Nat} {S0 Z : Nat → Prop} {t : List Value} {l : List QPred}
/-- one of the chain makes a row of rows -/
theorem qc_rows {ts : TypeId} {n : Nat} {parts : Array (Nat × Operand)} (ho : ops[i]? = some o) (hw : Region.wanted o (yielded ops a.tmps) = true) (hop : o.op = .buildSlice ts n parts) (hu : Try.prog.underlying ts = some (.slice 36)) (hn : n ≠ 0 ∧ n ≤ 1000) {C : Array Value}
    (hf : Instr.fill (fun i => some (i * 1, 1)) ((Array.range (n * 1)).map (#[Value.slice none 0 0][· % 1]!)) (parts.map fun (i, x) => (i, a.eval x)).toList = some C)
    (h : ∀ w', Cs w' w.heap.size C 36 → Mod (fun _ => False) w w' → KQ (.slice (some ⟨w.heap.size, 0, none⟩) n n) w') : wpOp Try.prog ops Q i (fun a' w' => ∃ v, a' = a.put o.dst v ∧ KQ v w') a w :=
  qc_run ho hw (ex_buildSl hop hu (by kernel_rfl) hn hf) (h _ (Cs.new _ _ _) ((Mod.refl _ _).alloc _))
theorem Join_Q {g n : Nat} {C : Array Value} {e : TypeId} (hc : Cs w g C e) (rs : List (Value × List Int)) (hC : C = (rs.map (·.1)).toArray) (hn : n = rs.length) (h : ∀ p ∈ rs, RdB w p.1 p.2) (hl2 : rs.length ≤ 1000) {bs : List Int} (hb : flat rs = bs) (hl : bs.length ≤ 900000) :
    Calls Try.prog 65 #[.slice (some ⟨g, 0, none⟩) n n] w fun e w' => ∃ v', e = .returned v' ∧ OwR (New w w') 900000 w' v' bs ∧ Mod (fun _ => False) w w' := by
  subst hb
  have hj : RdJ w (.slice (some ⟨g, 0, none⟩) n n) rs := by
    refine ⟨?_, h⟩
    subst hn
    refine Rd.mk (Nat.le_refl _) (by rw [maxLen_val]; omega) (by simp) fun j y hy => ?_
    rw [Nat.zero_add, hc.cell, hC]
    simpa using hy
  exact (Join_any _ rs w hj hl2 hl).mono fun e w' ⟨v', he, ho, hm⟩ => ⟨v', he, ho.widen (fun _ h => h) hl, hm⟩
theorem ql.rd {bs : List Int} {v : Value} (hb : Bytes bs) (h : ql B 5 (bs.map bv).toArray Z t v w) (hl : bs.length ≤ 1000000) : ∃ R : Nat → Prop, (∀ j, R j → B ≤ j ∧ ¬ Z j ∧ j < w.heap.size) ∧ RdR R bs.length w v bs := by
  obtain ⟨g, rfl, hB, hZ, m, h4⟩ := h
  have e : (bs.map bv).toArray.size = bs.length := by simp
  refine ⟨fun k => k = g, fun j hj => by subst hj; exact ⟨hB, hZ, (Array.getElem?_eq_some_iff.1 h4).1⟩, ⟨hb, ?_⟩, fun _ k hk => by cases hk; rfl, Nat.le_refl _⟩
  rw [e]
  refine Rd.mk (Nat.le_refl _) (by rw [maxLen_val]; omega) (by simp) fun j y hy => ?_
  rw [Nat.zero_add]
  simp only [World.cell?, h4]
  simpa using hy
/-- a string's bytes -/
def bytesOf (s : ByteArray) : List Int := s.data.toList.map fun b => (b.toNat : Int)
end
end Go.Proofs.Ytgnmdnmmemdemaa

/- SHA-256 in plain words, as the program's own operations spell it; bits.RotateLeft32 and sha.word. -/
set_option maxRecDepth 100000
set_option linter.unusedVariables false
namespace Go.Proofs.Ytgnmdnmmemdemaa
open Go Go.RowKit Go.Gv

abbrev wv (x : Int) : Value := .int .u32 x
/-- a word turned to the right -/
def rr (n : Nat) (x : Int) : Int := bits .or .u32 (IntKind.u32.wrap (x * 2 ^ (32 - n))) (x / 2 ^ n)
def xr (a b : Int) : Int := bits .xor .u32 a b
def an (a b : Int) : Int := bits .and .u32 a b
def pl (a b : Int) : Int := (a + b) % 4294967296
def wordOf (a b c d : Int) : Int := bits .or .u32 (bits .or .u32 (bits .or .u32 (a % 4294967296 * 16777216 % 4294967296) (b % 4294967296 * 65536 % 4294967296)) (c % 4294967296 * 256 % 4294967296)) (d % 4294967296)

theorem RL_7 (x : Int) (w : World) : Calls Try.prog 90 #[wv x, .int .i64 (-7)] w fun e w' => e = .returned (wv (rr 7 x)) ∧ w = w' := by
  have hr : rr 7 x = bits .or .u32 (IntKind.u32.wrap (x * 33554432)) (x / 128) := rfl
  have HR := Lib.hid hr
  clear hr
  have hs : bits .and .u64 (IntKind.u64.wrap (-7)) 31 = 25 := by decide +kernel
  go_enter Try.func90, Try.ntmps90
  go_wp2
  go_ret
  exact ⟨ret_int (by rw [HR.out]; rfl), rfl⟩
theorem RL_18 (x : Int) (w : World) : Calls Try.prog 90 #[wv x, .int .i64 (-18)] w fun e w' => e = .returned (wv (rr 18 x)) ∧ w = w' := by
  have hr : rr 18 x = bits .or .u32 (IntKind.u32.wrap (x * 16384)) (x / 262144) := rfl
  have HR := Lib.hid hr
  clear hr
  have hs : bits .and .u64 (IntKind.u64.wrap (-18)) 31 = 14 := by decide +kernel
  go_enter Try.func90, Try.ntmps90
  go_wp2
  go_ret
  exact ⟨ret_int (by rw [HR.out]; rfl), rfl⟩
theorem RL_17 (x : Int) (w : World) : Calls Try.prog 90 #[wv x, .int .i64 (-17)] w fun e w' => e = .returned (wv (rr 17 x)) ∧ w = w' := by
  have hr : rr 17 x = bits .or .u32 (IntKind.u32.wrap (x * 32768)) (x / 131072) := rfl
  have HR := Lib.hid hr
  clear hr
  have hs : bits .and .u64 (IntKind.u64.wrap (-17)) 31 = 15 := by decide +kernel
  go_enter Try.func90, Try.ntmps90
  go_wp2
  go_ret
  exact ⟨ret_int (by rw [HR.out]; rfl), rfl⟩
theorem RL_19 (x : Int) (w : World) : Calls Try.prog 90 #[wv x, .int .i64 (-19)] w fun e w' => e = .returned (wv (rr 19 x)) ∧ w = w' := by
  have hr : rr 19 x = bits .or .u32 (IntKind.u32.wrap (x * 8192)) (x / 524288) := rfl
  have HR := Lib.hid hr
  clear hr
  have hs : bits .and .u64 (IntKind.u64.wrap (-19)) 31 = 13 := by decide +kernel
  go_enter Try.func90, Try.ntmps90
  go_wp2
  go_ret
  exact ⟨ret_int (by rw [HR.out]; rfl), rfl⟩
theorem RL_6 (x : Int) (w : World) : Calls Try.prog 90 #[wv x, .int .i64 (-6)] w fun e w' => e = .returned (wv (rr 6 x)) ∧ w = w' := by
  have hr : rr 6 x = bits .or .u32 (IntKind.u32.wrap (x * 67108864)) (x / 64) := rfl
  have HR := Lib.hid hr
  clear hr
  have hs : bits .and .u64 (IntKind.u64.wrap (-6)) 31 = 26 := by decide +kernel
  go_enter Try.func90, Try.ntmps90
  go_wp2
  go_ret
  exact ⟨ret_int (by rw [HR.out]; rfl), rfl⟩
theorem RL_11 (x : Int) (w : World) : Calls Try.prog 90 #[wv x, .int .i64 (-11)] w fun e w' => e = .returned (wv (rr 11 x)) ∧ w = w' := by
  have hr : rr 11 x = bits .or .u32 (IntKind.u32.wrap (x * 2097152)) (x / 2048) := rfl
  have HR := Lib.hid hr
  clear hr
  have hs : bits .and .u64 (IntKind.u64.wrap (-11)) 31 = 21 := by decide +kernel
  go_enter Try.func90, Try.ntmps90
  go_wp2
  go_ret
  exact ⟨ret_int (by rw [HR.out]; rfl), rfl⟩
theorem RL_25 (x : Int) (w : World) : Calls Try.prog 90 #[wv x, .int .i64 (-25)] w fun e w' => e = .returned (wv (rr 25 x)) ∧ w = w' := by
  have hr : rr 25 x = bits .or .u32 (IntKind.u32.wrap (x * 128)) (x / 33554432) := rfl
  have HR := Lib.hid hr
  clear hr
  have hs : bits .and .u64 (IntKind.u64.wrap (-25)) 31 = 7 := by decide +kernel
  go_enter Try.func90, Try.ntmps90
  go_wp2
  go_ret
  exact ⟨ret_int (by rw [HR.out]; rfl), rfl⟩
theorem RL_2 (x : Int) (w : World) : Calls Try.prog 90 #[wv x, .int .i64 (-2)] w fun e w' => e = .returned (wv (rr 2 x)) ∧ w = w' := by
  have hr : rr 2 x = bits .or .u32 (IntKind.u32.wrap (x * 1073741824)) (x / 4) := rfl
  have HR := Lib.hid hr
  clear hr
  have hs : bits .and .u64 (IntKind.u64.wrap (-2)) 31 = 30 := by decide +kernel
  go_enter Try.func90, Try.ntmps90
  go_wp2
  go_ret
  exact ⟨ret_int (by rw [HR.out]; rfl), rfl⟩
theorem RL_13 (x : Int) (w : World) : Calls Try.prog 90 #[wv x, .int .i64 (-13)] w fun e w' => e = .returned (wv (rr 13 x)) ∧ w = w' := by
  have hr : rr 13 x = bits .or .u32 (IntKind.u32.wrap (x * 524288)) (x / 8192) := rfl
  have HR := Lib.hid hr
  clear hr
  have hs : bits .and .u64 (IntKind.u64.wrap (-13)) 31 = 19 := by decide +kernel
  go_enter Try.func90, Try.ntmps90
  go_wp2
  go_ret
  exact ⟨ret_int (by rw [HR.out]; rfl), rfl⟩
theorem RL_22 (x : Int) (w : World) : Calls Try.prog 90 #[wv x, .int .i64 (-22)] w fun e w' => e = .returned (wv (rr 22 x)) ∧ w = w' := by
  have hr : rr 22 x = bits .or .u32 (IntKind.u32.wrap (x * 1024)) (x / 4194304) := rfl
  have HR := Lib.hid hr
  clear hr
  have hs : bits .and .u64 (IntKind.u64.wrap (-22)) 31 = 10 := by decide +kernel
  go_enter Try.func90, Try.ntmps90
  go_wp2
  go_ret
  exact ⟨ret_int (by rw [HR.out]; rfl), rfl⟩

theorem word_any (v : Value) (a b c d : Int) (bs : List Int) (w : World) (h : RdB w v (a :: b :: c :: d :: bs)) :
    Calls Try.prog 94 #[v] w fun e w' => e = .returned (wv (wordOf a b c d)) ∧ ∃ n, w' = w.drewN n := by
  obtain ⟨ao, cap, rfl, hc, hm⟩ := h.shape
  rcases h.form with ⟨h0, _⟩ | ⟨g, o, cap', _, hv, h1, h2, hcell⟩
  · cases h0
  simp only [Value.slice.injEq] at hv
  obtain ⟨rfl, _, rfl⟩ := hv
  have c0 := hcell 0 (by simp)
  have c1 := hcell 1 (by simp)
  have c2 := hcell 2 (by simp)
  have c3 := hcell 3 (by simp)
  simp only [List.getElem_cons_zero, List.getElem_cons_succ, Nat.add_zero] at c0 c1 c2 c3
  have hw : wordOf a b c d = bits .or .u32 (bits .or .u32 (bits .or .u32 (a % 4294967296 * 16777216 % 4294967296) (b % 4294967296 * 65536 % 4294967296)) (c % 4294967296 * 256 % 4294967296)) (d % 4294967296) := rfl
  have HW := Lib.hid hw
  simp only [List.length_cons] at hc ⊢
  generalize bs.length = n at *
  clear hw h hcell h1 h2 hm
  go_enter Try.func94, Try.ntmps94
  go_wp2
  go_quiet (fail)
  go_wp2
  go_ret
  exact ⟨ret_int (by rw [HW.out]), ⟨_, rfl⟩⟩
end Go.Proofs.Ytgnmdnmmemdemaa

/- sha.spread: a block as 64 words. -/
set_option maxRecDepth 100000
set_option linter.unusedVariables false
namespace Go.Proofs.Ytgnmdnmmemdemaa
open Go Go.RowKit Go.Gv

def wAt (bs : List Int) (i : Nat) : Int := wordOf (bs.getD (4 * i) 0) (bs.getD (4 * i + 1) 0) (bs.getD (4 * i + 2) 0) (bs.getD (4 * i + 3) 0)
def w16 (bs : List Int) (i : Nat) : List Int := (List.range i).map (wAt bs) ++ List.replicate (64 - i) 0
def spVal (p x q y : Int) : Int := pl (pl (pl p (xr (xr (rr 7 x) (rr 18 x)) (x / 8))) q) (xr (xr (rr 17 y) (rr 19 y)) (y / 1024))
def spStep (ws : List Int) (j : Nat) : List Int := ws.set (j + 16) (spVal (ws.getD j 0) (ws.getD (j + 1) 0) (ws.getD (j + 9) 0) (ws.getD (j + 14) 0))
def spTo (bs : List Int) (j : Nat) : List Int := (List.range j).foldl spStep (w16 bs 16)
def spreadF (bs : List Int) : List Int := spTo bs 48
theorem w16_len (bs : List Int) (i : Nat) (h : i ≤ 64) : (w16 bs i).length = 64 := by simp [w16]; omega
theorem w16_succ (bs : List Int) (i : Nat) (h : i < 64) : (w16 bs i).set i (wAt bs i) = w16 bs (i + 1) := by
  unfold w16
  rw [List.set_append_right _ _ (by simp), List.length_map, List.length_range, Nat.sub_self, List.range_succ, List.map_append, List.append_assoc]
  congr 1
  obtain ⟨k, hk⟩ : ∃ k, 64 - i = k + 1 := ⟨63 - i, by omega⟩
  rw [hk, show 64 - (i + 1) = k by omega, List.replicate_succ]
  rfl
theorem spTo_succ (bs : List Int) (j : Nat) : spTo bs (j + 1) = spStep (spTo bs j) j := by unfold spTo; rw [List.range_succ, List.foldl_append]; rfl
theorem spTo_len (bs : List Int) (j : Nat) : (spTo bs j).length = 64 := by
  induction j with
  | zero => exact w16_len bs 16 (by omega)
  | succ j ih => rw [spTo_succ, spStep, List.length_set, ih]
theorem spreadF_len (bs : List Int) : (spreadF bs).length = 64 := spTo_len bs 48
theorem drop4 (bs : List Int) (i : Nat) (h : 4 * i + 4 ≤ bs.length) : bs.drop (4 * i) = bs.getD (4 * i) 0 :: bs.getD (4 * i + 1) 0 :: bs.getD (4 * i + 2) 0 :: bs.getD (4 * i + 3) 0 :: bs.drop (4 * i + 4) := by
  rw [List.drop_eq_getElem_cons (by omega), List.drop_eq_getElem_cons (by omega), List.drop_eq_getElem_cons (by omega), List.drop_eq_getElem_cons (by omega)]
  simp [List.getD, show 4 * i < bs.length by omega, show 4 * i + 1 < bs.length by omega, show 4 * i + 2 < bs.length by omega, show 4 * i + 3 < bs.length by omega]

/-- an array of words in a block -/
def Ws (T : TypeId) (w : World) (g : Nat) (ws : List Int) : Prop := Cs w g (ws.map wv).toArray T
theorem Ws.cell {T : TypeId} {w : World} {g : Nat} {ws : List Int} (h : Ws T w g ws) {j : Nat} (hj : j < ws.length) : w.cell? ⟨g, j, none⟩ = some (wv (ws.getD j 0)) := by
  rw [Cs.cell h]; simp [List.getD, List.getElem?_eq_getElem hj]
theorem Ws.mod {T : TypeId} {S : Nat → Prop} {w w' : World} {g : Nat} {ws : List Int} (h : Ws T w g ws) (hm : Mod S w w') (hn : ¬ S g) : Ws T w' g ws := Cs.mod h hm hn
theorem Ws.set {T : TypeId} {w : World} {g : Nat} {ws : List Int} (h : Ws T w g ws) (j : Nat) (x : Int) : Ws T (w.setCell ⟨g, j, none⟩ (wv x)) g (ws.set j x) := by
  have := Cs.set h j (wv x)
  unfold Ws
  simpa [List.map_set] using this
theorem Ws.frozen {T : TypeId} {w : World} {g : Nat} {ws : List Int} (h : Ws T w g ws) (j : Nat) : w.frozen? ⟨g, j, none⟩ = false := Cs.frozen h j
theorem wv_one (ws : List Int) : ∀ u ∈ ws.map wv, u.oneCell' = true := ints_oneCell .u32 ws
theorem size_a64 : (Try.prog.info? 127).map (·.size) = some 64 := by kernel_rfl
theorem size_a8 : (Try.prog.info? 125).map (·.size) = some 8 := by kernel_rfl

set_option maxHeartbeats 2000000 in
theorem spread_any (v : Value) (bs : List Int) (w : World) (h : RdB w v bs) (hbl : ∀ g, v.ownBlock = some g → g < w.heap.size) (h64 : 64 ≤ bs.length) :
    Calls Try.prog 89 #[v] w fun e w' => e = .returned (.agg ((spreadF bs).map wv).toArray) ∧ Mod (fun _ => False) w w' := by
  obtain ⟨ao, cap, rfl, hc, hm⟩ := h.shape
  rw [maxLen_val] at hm
  have HR := Lib.hid h
  have HB := Lib.hid hbl
  clear h hbl
  obtain ⟨zs, hzs⟩ : ∃ zs, zs = List.replicate 64 (0 : Int) := ⟨_, rfl⟩
  obtain ⟨F, hF⟩ : ∃ F, F = spreadF bs := ⟨_, rfl⟩
  rw [← hF]
  have HZ := Lib.hid hzs
  have HFF := Lib.hid hF
  clear hzs hF
  go_enter Try.func89, Try.ntmps89
  go_wp2
  go_loopw [10] (fun t10 wr => ∃ i : Nat, t10 = .int .i64 i ∧ i ≤ 16 ∧ Ws 127 wr w.heap.size zs ∧ Ws 127 wr (w.heap.size + 1) (w16 bs i) ∧ Mod (fun _ => False) w wr) (fun t10 _ => 16 - (intOf t10).toNat)
  case atStart =>
    refine ⟨0, rfl, by omega, ?_, ?_, ?_⟩
    · rw [HZ.out]; exact (Cs.new w _ _).alloc _
    · have e : ∀ o, (w.alloc o).heap.size = w.heap.size + 1 := fun o => by simp
      unfold Ws
      rw [← e (.cells (List.replicate 64 (wv 0)).toArray 127)]
      exact Cs.new _ _ _
    · exact ((Mod.refl _ _).alloc _).alloc _
  case round =>
    obtain ⟨i, rfl, hi, hA, hB, hM⟩ := hrel
    have KA := Lib.hid hA
    have KB := Lib.hid hB
    have KM := Lib.hid hM
    have z0 := hM.size
    have zb := hB.lt
    clear hA hB hM
    by_cases hlt : i < 16
    · have hcap : ¬ cap = 4 * i := by omega
      have hle : 4 * i ≤ bs.length := by omega
      have hrd := RdB.tail_in (HR.out.mod KM.out (fun _ g hg h => h)) (4 * i) hle hcap
      rw [drop4 bs i (by omega)] at hrd
      have HRD := Lib.hid hrd
      clear hrd
      go_wp2_with fail
      refine (word_any _ _ _ _ _ _ _ HRD.out).mono ?_
      rintro e w2 ⟨rfl, hd⟩
      have hm := mod_of_drewN hd (fun _ => False)
      clear hd
      have KA2 := Lib.hid (KA.out.mod hm (fun h => h))
      have KB2 := Lib.hid (KB.out.mod hm (fun h => h))
      have KM2 := Lib.hid (KM.out.trans hm (fun _ _ h => h))
      clear hm KA KB KM
      have hci := KB2.out.cell (j := i) (by rw [w16_len _ _ (by omega)]; omega)
      have hfi := KB2.out.frozen i
      obtain ⟨x, hx⟩ : ∃ x, x = wordOf (bs.getD (4 * i) 0) (bs.getD (4 * i + 1) 0) (bs.getD (4 * i + 2) 0) (bs.getD (4 * i + 3) 0) := ⟨_, rfl⟩
      rw [← hx]
      have HX := Lib.hid hx
      clear hx
      go_wp2
      go_roundw
      case rel =>
        refine ⟨i + 1, by go_num, by omega, KA2.out.other (by simp) _, ?_, KM2.out.setCell (by first | (simp; done) | (simp; omega)) _⟩
        have := KB2.out.set i x
        rw [HX.out, show wordOf (bs.getD (4 * i) 0) (bs.getD (4 * i + 1) 0) (bs.getD (4 * i + 2) 0) (bs.getD (4 * i + 3) 0) = wAt bs i from rfl, w16_succ bs i (by omega)] at this
        rw [HX.out]
        exact this
      case measure => first | (simp [intOf]; done) | (simp [intOf]; omega)
    · obtain rfl : i = 16 := by omega
      rw [show ((16 : Nat) : Int) = 16 from rfl]
      go_wp2
      go_loopw [5] (fun t5 wr => ∃ j : Nat, t5 = .int .i64 ((j + 16 : Nat) : Int) ∧ j ≤ 48 ∧ Ws 127 wr w.heap.size zs ∧ Ws 127 wr (w.heap.size + 1) (spTo bs j) ∧ Mod (fun _ => False) w wr) (fun t5 _ => 64 - (intOf t5).toNat)
      case atStart => exact ⟨0, rfl, by omega, KA.out, KB.out, KM.out⟩
      case round =>
        obtain ⟨wi, rfl⟩ : ∃ x, x = wr := ⟨_, rfl⟩
        obtain ⟨j, rfl, hj, hA, hB, hM⟩ := hrel
        have zz := hM.size
        have zb2 := hB.lt
        clear KA KB KM
        have KA := Lib.hid hA
        have KB := Lib.hid hB
        have KM := Lib.hid hM
        clear hA hB hM
        by_cases hlt2 : j < 48
        · have c1 := KB.out.cell (j := j + 1) (by rw [spTo_len]; omega)
          have c14 := KB.out.cell (j := j + 14) (by rw [spTo_len]; omega)
          obtain ⟨x, hx⟩ : ∃ x, x = (spTo bs j).getD (j + 1) 0 := ⟨_, rfl⟩
          obtain ⟨y, hy⟩ : ∃ y, y = (spTo bs j).getD (j + 14) 0 := ⟨_, rfl⟩
          rw [← hx] at c1
          rw [← hy] at c14
          have HX := Lib.hid hx
          have HY := Lib.hid hy
          clear hx hy
          go_wp2_with fail
          go_quiet (fail)
          clear c1 c14
          obtain ⟨w1, hw1⟩ : ∃ x, x = wi.drewN nq := ⟨_, rfl⟩
          have hm := mod_of_drewN ⟨nq, hw1⟩ (fun _ => False)
          rw [← hw1]
          clear hw1
          have KA2 := Lib.hid (KA.out.mod hm (fun h => h))
          have KB2 := Lib.hid (KB.out.mod hm (fun h => h))
          have KM2 := Lib.hid (KM.out.trans hm (fun _ _ h => h))
          have zz2 := hm.size
          clear hm KA KB KM
          go_wp2_with (first | (go_at_call 90; (with_reducible refine (RL_7 _ _).mono ?_); rintro e w' ⟨rfl, rfl⟩) | (go_at_call 90; (with_reducible refine (RL_18 _ _).mono ?_); rintro e w' ⟨rfl, rfl⟩) | (go_at_call 90; (with_reducible refine (RL_17 _ _).mono ?_); rintro e w' ⟨rfl, rfl⟩) | (go_at_call 90; (with_reducible refine (RL_19 _ _).mono ?_); rintro e w' ⟨rfl, rfl⟩))
          have c0 := KB2.out.cell (j := j) (by rw [spTo_len]; omega)
          have c9 := KB2.out.cell (j := j + 9) (by rw [spTo_len]; omega)
          have c16 := KB2.out.cell (j := j + 16) (by rw [spTo_len]; omega)
          have f16 := KB2.out.frozen (j + 16)
          have b0 : (0 : Int) ≤ j := by omega
          have b1 : (j : Int) < 64 := by omega
          have b2 : (0 : Int) ≤ (j : Int) + 9 := by omega
          have b3 : (j : Int) + 9 < 64 := by omega
          have b4 : (0 : Int) ≤ (j : Int) + 16 := by omega
          have hw0 : IntKind.i64.wrap (j : Int) = j := IntWalk.i64_in _ (by omega)
          have hw9 : IntKind.i64.wrap ((j : Int) + 16 - 7) = (j : Int) + 9 := by rw [IntWalk.i64_in _ (by omega)]; omega
          have ht9 : ((j : Int) + 9).toNat = j + 9 := by omega
          have ht16 : ((j : Int) + 16).toNat = j + 16 := by omega
          obtain ⟨p, hp⟩ : ∃ p, p = (spTo bs j).getD j 0 := ⟨_, rfl⟩
          obtain ⟨q, hq⟩ : ∃ q, q = (spTo bs j).getD (j + 9) 0 := ⟨_, rfl⟩
          rw [← hp] at c0
          rw [← hq] at c9
          have HP := Lib.hid hp
          have HQ := Lib.hid hq
          clear hp hq
          have hset := KB2.out.set (j + 16) (spVal p x q y)
          rw [HP.out, HX.out, HQ.out, HY.out] at hset
          have e : (spTo bs j).set (j + 16) (spVal ((spTo bs j).getD j 0) ((spTo bs j).getD (j + 1) 0) ((spTo bs j).getD (j + 9) 0) ((spTo bs j).getD (j + 14) 0)) = spTo bs (j + 1) := (spTo_succ bs j).symm
          rw [e] at hset
          rw [← HP.out, ← HX.out, ← HQ.out, ← HY.out] at hset
          clear e
          have HSET := Lib.hid hset
          have HVAL := Lib.hid (show spVal p x q y = IntKind.u32.wrap (IntKind.u32.wrap (IntKind.u32.wrap (p + bits .xor .u32 (bits .xor .u32 (rr 7 x) (rr 18 x)) (x / 8)) + q) + bits .xor .u32 (bits .xor .u32 (rr 17 y) (rr 19 y)) (y / 1024)) by simp only [spVal, pl, xr, IntKind.wrap_u32])
          clear hset
          go_region_law (fail)
          all_goals
            rw [← HVAL.out]
            go_wp2
            go_roundw
            case rel => exact ⟨j + 1, by go_num, by omega, KA2.out.other (p := ⟨w.heap.size + 1, j + 16, none⟩) (by simp) _, HSET.out, (KM2.out.setCell (p := ⟨w.heap.size + 1, j + 16, none⟩) (by first | (simp; done) | (simp; omega)) _).drew⟩
            case measure => first | (simp [intOf]; done) | (simp [intOf]; omega)
        · obtain rfl : j = 48 := by omega
          have hFl : F.length = 64 := by rw [HFF.out]; exact spreadF_len bs
          have hzl : zs.length = 64 := by rw [HZ.out]; simp
          have hKB : Ws 127 wi (w.heap.size + 1) F := by rw [HFF.out]; exact KB.out
          have hcell : ∀ k u, (F.map wv)[k]? = some u → wi.cell? ⟨w.heap.size + 1, 0 + k, none⟩ = some u := by
            intro k u hu
            rw [Nat.zero_add, Cs.cell hKB]
            simpa using hu
          have HCELL := Lib.hid hcell
          have HS := Lib.hid (show (Try.prog.info? 127).map (·.size) = some (F.map wv).length by rw [List.length_map, hFl]; exact size_a64)
          have HF := Lib.hid (show 0 + (F.map wv).length ≤ (zs.map wv).toArray.size by simp [hFl, hzl])
          have HLY := Lib.hid (lay_whole (zs.map wv).toArray (F.map wv) (by simp [hFl, hzl]))
          clear hcell hFl hzl hKB
          go_upto_region 14 with (fail)
          go_step
          refine wpList_loadA rfl 127 (.tmp 3) rfl Try.underlying127 rfl (g := w.heap.size + 1) (off := 0) (cs := F.map wv) HS.out rfl HCELL.out ?_
          simp only [Act.put, List.setIfInBounds_toArray, List.set_cons_zero, List.set_cons_succ]
          refine wpList_storeA rfl 127 (.tmp 2) (.tmp 64) rfl KA.out (vs := F.map wv) HS.out (wv_one _) HF.out rfl rfl ?_
          intro w3 hc3 hm3
          rw [HLY.out] at hc3
          go_wp2
          refine bodyPost_ret (results_cellA rfl _ _ w.heap.size (F.map wv) rfl (fun k u hu => by rw [hc3.cell]; simpa using hu) Try.underlying127 rfl HS.out) rfl ⟨rfl, KM.out.trans (hm3.mono (S' := fun k => k = w.heap.size) (fun k _ hk => hk)) (by intro k h1 h2; omega)⟩
end Go.Proofs.Ytgnmdnmmemdemaa
