/- A region whose operations that turn what stood before stand one behind the other (the chain): they are told step by step, as straight code; beside them stand operations that only read or make blocks of their own, and new variables that are written whole. No program here. -/
import Derived.Test.YtknpapcfhnhheaaVal4
set_option linter.unusedVariables false
namespace Go.Gv
open Go Go.RowKit

section
variable {P : Program} {ops : Array Oper} {Q : Exit → Act → World → Prop}
/-- what is said of an operation's answer: the new blocks that may still be turned; the chain's answers so far; the answer; the world -/
abbrev QPred := (Nat → Prop) → List Value → Value → World → Prop
/-- what the operations beside the chain may do: new blocks; a new block that nobody turns may be marked -/
structure QE (B : Nat) (Z : Nat → Prop) (w w' : World) : Prop where
  os : w'.os = w.os
  tape : w'.tape = w.tape
  output : w'.output = w.output
  size : w.heap.size ≤ w'.heap.size
  block : ∀ k, k < w.heap.size → w'.heap[k]? = w.heap[k]? ∨ (B ≤ k ∧ ¬ Z k ∧ ∃ C T m m', w.heap[k]? = some (.cells C T m) ∧ w'.heap[k]? = some (.cells C T m'))
structure QStable (B : Nat) (S0 : Nat → Prop) (p : QPred) : Prop where
  env : ∀ Z t v w w', p Z t v w → QE B Z w w' → p Z t v w'
  on : ∀ Z Z' t t' v w w', p Z t v w → Mod (fun j => (j < B ∧ S0 j) ∨ (B ≤ j ∧ Z j)) w w' → (∀ j, Z' j → Z j ∨ w.heap.size ≤ j) → (t' = t ∨ ∃ u, t' = t ++ [u]) → p Z' t' v w'
variable {B : Nat} {S0 : Nat → Prop} {Z Z' Y : Nat → Prop} {w w' : World} {t t' : List Value}
theorem QE.still (h : Mod (fun _ => False) w w') : QE B Z w w' := ⟨h.os, h.tape, h.output, h.size, fun k hk => Or.inl (h.block k hk (fun h => h))⟩
theorem QE.refl : QE B Z w w := QE.still (Mod.refl _ _)
theorem QE.mod (h : QE B Z w w') (hY : ∀ j, Y j → Z j) : Mod (fun j => B ≤ j ∧ ¬ Y j) w w' :=
  ⟨h.os, h.tape, h.output, h.size, fun k hk hn => (h.block k hk).elim (fun h => h) (fun ⟨h1, h2, _⟩ => absurd ⟨h1, fun h => h2 (hY k h)⟩ hn)⟩
theorem QE.cell (h : QE B Z w w') {p : Addr} {u : Value} (hc : w.cell? p = some u) : w'.cell? p = some u := by
  rcases h.block p.block (World.block_lt_of_cell? _ _ hc) with e | ⟨-, -, C, T, m, m', e1, e2⟩
  · exact (World.cell?_of_block e).trans hc
  · unfold World.cell? at hc ⊢
    rw [e1] at hc
    rw [e2]
    exact hc
def qi (x : Value) : QPred := fun _ _ v _ => v = x
def qa : QPred := fun _ _ _ _ => True
def qv (j : Nat) : QPred := fun _ t v _ => t[j]? = some v
/-- known from the chain's first k answers -/
def qf (k : Nat) (f : List Value → Value) : QPred := fun _ t v _ => k ≤ t.length ∧ v = f (t.take k)
/-- only where a test says so -/
def qc (b : Bool) (p : QPred) : QPred := fun Z t v w => (b = true → p Z t v w) ∧ (b = false → v = undef)
/-- a literal's row -/
def ql (B : Nat) (T8 : TypeId) (C : Array Value) : QPred := fun Z _ v w => ∃ g, v = .slice (some ⟨g, 0, none⟩) C.size C.size ∧ B ≤ g ∧ ¬ Z g ∧ ∃ m, w.heap[g]? = some (.cells C T8 m)
/-- something that is read where nobody turns anything -/
def qr (B : Nat) (S0 : Nat → Prop) (F : (Nat → Prop) → World → Value → Prop) : QPred := fun Z _ v w => ∃ R : Nat → Prop, (∀ j, R j → j < w.heap.size ∧ ¬ (j < B ∧ S0 j) ∧ ¬ (B ≤ j ∧ Z j)) ∧ F R w v
theorem qi_stable {x : Value} : QStable B S0 (qi x) := ⟨fun _ _ _ _ _ h _ => h, fun _ _ _ _ _ _ _ h _ _ _ => h⟩
theorem qa_stable : QStable B S0 qa := ⟨fun _ _ _ _ _ h _ => h, fun _ _ _ _ _ _ _ h _ _ _ => h⟩
theorem qv_stable {j : Nat} : QStable B S0 (qv j) := ⟨fun _ _ _ _ _ h _ => h, fun Z Z' t t' v w w' h _ _ ht => by
  rcases ht with rfl | ⟨u, rfl⟩
  · exact h
  · exact gv_at h⟩
theorem qf_stable {k : Nat} {f : List Value → Value} : QStable B S0 (qf k f) := ⟨fun _ _ _ _ _ h _ => h, fun Z Z' t t' v w w' h _ _ ht => by
  rcases ht with rfl | ⟨u, rfl⟩
  · exact h
  · refine ⟨by rw [List.length_append]; exact Nat.le_trans h.1 (by omega), ?_⟩
    rw [List.take_append_of_le_length h.1]
    exact h.2⟩
theorem qc_stable {b : Bool} {p : QPred} (h : QStable B S0 p) : QStable B S0 (qc b p) :=
  ⟨fun Z t v w w' hp he => ⟨fun hb => h.env _ _ _ _ _ (hp.1 hb) he, hp.2⟩, fun Z Z' t t' v w w' hp hm hz ht => ⟨fun hb => h.on _ _ _ _ _ _ _ (hp.1 hb) hm hz ht, hp.2⟩⟩
theorem ql_stable {T8 : TypeId} {C : Array Value} : QStable B S0 (ql B T8 C) where
  env Z t v w w' h he := by
    obtain ⟨g, h1, h2, h3, m, h4⟩ := h
    rcases he.block g (Array.getElem?_eq_some_iff.1 h4).1 with e | ⟨-, -, C', T', m1, m2, e1, e2⟩
    · exact ⟨g, h1, h2, h3, m, e.trans h4⟩
    · rw [h4] at e1
      cases e1
      exact ⟨g, h1, h2, h3, m2, e2⟩
  on Z Z' t t' v w w' h hm hz ht := by
    obtain ⟨g, h1, h2, h3, m, h4⟩ := h
    have hlt := (Array.getElem?_eq_some_iff.1 h4).1
    refine ⟨g, h1, h2, fun hg => ?_, m, hm.obj h4 (fun hs => ?_)⟩
    · rcases hz g hg with h | h
      · exact h3 h
      · omega
    · rcases hs with hs | hs
      · omega
      · exact h3 hs.2
theorem qr_stable {F : (Nat → Prop) → World → Value → Prop} (hF : ∀ R w w' v, F R w v → (∀ p u, R p.block → w.cell? p = some u → w'.cell? p = some u) → F R w' v) : QStable B S0 (qr B S0 F) where
  env Z t v w w' h he := by
    obtain ⟨R, h1, h2⟩ := h
    exact ⟨R, fun j hj => ⟨Nat.lt_of_lt_of_le (h1 j hj).1 he.size, (h1 j hj).2⟩, hF _ _ _ _ h2 fun p u _ hc => he.cell hc⟩
  on Z Z' t t' v w w' h hm hz ht := by
    obtain ⟨R, h1, h2⟩ := h
    refine ⟨R, fun j hj => ⟨Nat.lt_of_lt_of_le (h1 j hj).1 hm.size, (h1 j hj).2.1, fun hn => ?_⟩, hF _ _ _ _ h2 fun p u hp hc => hm.cell hc (fun hn => ?_)⟩
    · rcases hz j hn.2 with h | h
      · exact (h1 j hj).2.2 ⟨hn.1, h⟩
      · have := (h1 j hj).1; omega
    · rcases hn with hn | hn
      · exact (h1 _ hp).2.1 hn
      · exact (h1 _ hp).2.2 hn
def AllQ (B : Nat) (S0 : Nat → Prop) : List QPred → Prop
  | [] => True
  | p :: r => QStable B S0 p ∧ AllQ B S0 r
theorem AllQ.get : ∀ (l : List QPred), AllQ B S0 l → ∀ i, QStable B S0 (l.getD i qa)
  | [], _, _ => by simpa using qa_stable
  | p :: r, h, 0 => h.1
  | p :: r, h, i + 1 => by simpa using AllQ.get r h.2 i

/-- a new variable that is written whole: the operation that makes it, the one that writes it, its type, its zero; what is written hangs on the chain's first k answers -/
structure QRow where
  a : Nat
  s : Nat
  T : TypeId
  z : List Value
  k : Nat
  c : List Value → List Value
def qDist (al : List QRow) : Bool := decide ((al.map (·.a) ++ al.map (·.s)).Nodup)
theorem q_uniq {al : List QRow} (h : qDist al = true) : (∀ r ∈ al, ∀ r' ∈ al, r.a = r'.a → r = r') ∧ (∀ r ∈ al, ∀ r' ∈ al, r.s = r'.s → r = r') ∧ (∀ r ∈ al, ∀ r' ∈ al, r.a ≠ r'.s) := by
  unfold qDist at h
  have h := of_decide_eq_true h
  obtain ⟨h1, h2, h3⟩ := List.nodup_append.1 h
  refine ⟨fun r hr r' hr' e => ?_, fun r hr r' hr' e => ?_, fun r hr r' hr' => h3 _ (List.mem_map.2 ⟨r, hr, rfl⟩) _ (List.mem_map.2 ⟨r', hr', rfl⟩)⟩
  · obtain ⟨j, hj⟩ := List.getElem?_of_mem hr
    obtain ⟨j', hj'⟩ := List.getElem?_of_mem hr'
    have e1 : (al.map (·.a))[j]? = some r.a := by rw [List.getElem?_map, hj]; rfl
    have e2 : (al.map (·.a))[j']? = some r.a := by rw [List.getElem?_map, hj', e]; rfl
    have := (List.getElem?_inj (List.getElem?_eq_some_iff.1 e1).1 h1).1 (e1.trans e2.symm)
    subst this
    exact Option.some.inj (hj.symm.trans hj')
  · obtain ⟨j, hj⟩ := List.getElem?_of_mem hr
    obtain ⟨j', hj'⟩ := List.getElem?_of_mem hr'
    have e1 : (al.map (·.s))[j]? = some r.s := by rw [List.getElem?_map, hj]; rfl
    have e2 : (al.map (·.s))[j']? = some r.s := by rw [List.getElem?_map, hj', e]; rfl
    have := (List.getElem?_inj (List.getElem?_eq_some_iff.1 e1).1 h2).1 (e1.trans e2.symm)
    subst this
    exact Option.some.inj (hj.symm.trans hj')

/-- what the chain has still to do: told step by step -/
def QChain (P : Program) (ops : Array Oper) (Q : Exit → Act → World → Prop) (a0 : Act) (n : Nat) (ss : List Nat) (B : Nat) (S0 : Nat → Prop) (SS : Nat → Nat → Prop) (l : List QPred) (al : List QRow) : List Nat → Nat → (Nat → Prop) → List Value → World → Prop
  | [], _, Y, t, w => ∀ vs, vs.length = ss.length → (∃ Z : Nat → Prop, (∀ j, Y j → Z j) ∧ (∀ j, Z j → B ≤ j ∧ j < w.heap.size) ∧ ∀ p v, vs[p]? = some v → (l.getD p qa) Z t v w) →
      (∀ r ∈ al, ∃ q, vs[r.a]? = some (.pointer (some ⟨q, 0, none⟩)) ∧ B ≤ q ∧ ¬ Y q ∧ Cs w q (r.c (t.take r.k)).toArray r.T) → (∀ r ∈ al, ∀ r' ∈ al, r.a ≠ r'.a → vs[r.a]? ≠ vs[r'.a]?) → Q .normal (putAll a0 ss vs) w
  | i :: c, k, Y, t, w => ∀ Z a, (∀ j, Y j → Z j) → (∀ j, Z j → B ≤ j ∧ j < w.heap.size) → (∀ t, t ∉ ss → a.eval (.tmp t) = a0.eval (.tmp t)) → (∀ s, s < n → s < a.tmps.size) →
      (∀ o, ops[i]? = some o → ∀ e ∈ o.after, Region.binds .any e = true → ∀ s, (ops[e.on]?).bind (·.dst) = some s → (l.getD e.on qa) Z t (a.eval (.tmp s)) w) →
      (∀ j s, (ops[j]?).bind (·.dst) = some s → (clo ops ops.size (afterOf ops j)).contains i = true → a.eval (.tmp s) = a0.eval (.tmp s)) → 
      wpOp P ops Q i (fun a' w' => ∃ o v, ops[i]? = some o ∧ a' = a.put o.dst v ∧ Mod (fun j => (j < B ∧ SS k j) ∨ Y j) w w' ∧ (∀ Z, (l.getD i qa) Z (t ++ [v]) v w') ∧
        ∀ w'', Mod (fun j => B ≤ j ∧ ¬ (Y j ∨ (w.heap.size ≤ j ∧ j < w'.heap.size))) w' w'' → QChain P ops Q a0 n ss B S0 SS l al c (k + 1) (fun j => Y j ∨ (w.heap.size ≤ j ∧ j < w'.heap.size)) (t ++ [v]) w'') a w

/-- what is to be shown of an operation that makes a new variable -/
def MakesQ (P : Program) (r : QRow) (o : Oper) : Prop := o.guard = none ∧ o.op = .alloc r.T ∧ (P.info? r.T).bind (·.zero) = some (.agg r.z.toArray) ∧ (P.info? r.T).map (·.size) = some r.z.length
/-- of one that writes it -/
def WritesQ (ops : Array Oper) (a0 : Act) (w0 : World) (n : Nat) (ss : List Nat) (S0 : Nat → Prop) (l : List QPred) (r : QRow) (i : Nat) (o : Oper) : Prop :=
  o.guard = none ∧ ∃ sa y, (ops[r.a]?).bind (·.dst) = some sa ∧ sa < n ∧ o.op = .store r.T (.tmp sa) y ∧ (clo ops ops.size (afterOf ops i)).contains r.a = true ∧
    ∀ (Z : Nat → Prop) (t : List Value) (a : Act) (w : World), Mod (fun j => (j < w0.heap.size ∧ S0 j) ∨ w0.heap.size ≤ j) w0 w → (∀ t, t ∉ ss → a.eval (.tmp t) = a0.eval (.tmp t)) → (∀ s, s < n → s < a.tmps.size) →
      (∀ e ∈ o.after, Region.binds .any e = true → ∀ s, (ops[e.on]?).bind (·.dst) = some s → (l.getD e.on qa) Z t (a.eval (.tmp s)) w) → (∀ j s, (ops[j]?).bind (·.dst) = some s → (clo ops ops.size (afterOf ops j)).contains i = true → a.eval (.tmp s) = a0.eval (.tmp s)) → r.k ≤ t.length ∧ (a.eval y).cells = (r.c (t.take r.k)).toArray ∧ (r.c (t.take r.k)).length = r.z.length ∧ ∀ u ∈ r.c (t.take r.k), u.oneCell' = true
/-- how an operation beside the chain leaves things -/
def QJ (B : Nat) (l : List QPred) (Z : Nat → Prop) (i : Nat) (o : Oper) (t : List Value) (a : Act) (w : World) : Act → World → Prop := fun a' w' => ∃ v, a' = a.put o.dst v ∧ QE B Z w w' ∧ (l.getD i qa) Z t v w'
def StepQ (P : Program) (ops : Array Oper) (Q : Exit → Act → World → Prop) (a0 : Act) (w0 : World) (n : Nat) (ss : List Nat) (S0 : Nat → Prop) (SS : Nat → Nat → Prop) (l : List QPred) (c : List Nat) (al : List QRow) (i : Nat) (o : Oper) : Prop :=
  if c.contains i then True else
  match al.find? (fun r => r.a == i) with
  | some r => MakesQ P r o
  | none => match al.find? (fun r => r.s == i) with
    | some r => WritesQ ops a0 w0 n ss S0 l r i o
    | none => ∀ (Z : Nat → Prop) t a w, (∀ j, Z j → w0.heap.size ≤ j ∧ j < w.heap.size) → Mod (fun j => (j < w0.heap.size ∧ S0 j) ∨ w0.heap.size ≤ j) w0 w → Mod (fun j => (j < w0.heap.size ∧ ∃ k, k < t.length ∧ SS k j) ∨ w0.heap.size ≤ j) w0 w → (∀ t, t ∉ ss → a.eval (.tmp t) = a0.eval (.tmp t)) → (∀ s, s < n → s < a.tmps.size) →
        (∀ e ∈ o.after, Region.binds .any e = true → ∀ s, (ops[e.on]?).bind (·.dst) = some s → (l.getD e.on qa) Z t (a.eval (.tmp s)) w) → (∀ k q, c[k]? = some q → (clo ops ops.size (afterOf ops q)).contains i = true → t.length ≤ k) → (∀ j s, (ops[j]?).bind (·.dst) = some s → (clo ops ops.size (afterOf ops j)).contains i = true → a.eval (.tmp s) = a0.eval (.tmp s)) → 
        wpOp P ops Q i (QJ w0.heap.size l Z i o t a w) a w
/-- the new variables: made ones stand in blocks of their own -/
structure QInv (Ao : Nat → Prop) (al : List QRow) (L : Nat → Bool) (t : List Value) (vs : List Value) (w : World) : Prop where
  at_ : ∀ r ∈ al, L r.a = true → ∃ q, vs[r.a]? = some (.pointer (some ⟨q, 0, none⟩)) ∧ Ao q ∧ Cs w q (if L r.s then (r.c (t.take r.k)).toArray else r.z.toArray) r.T ∧ (L r.s = true → r.k ≤ t.length)
  ne : ∀ r ∈ al, ∀ r' ∈ al, r.a ≠ r'.a → L r.a = true → L r'.a = true → vs[r.a]? ≠ vs[r'.a]?
theorem QInv.other {Ao Ao' : Nat → Prop} {al : List QRow} {L : Nat → Bool} {t t' : List Value} {vs : List Value} {w w' : World} (h : QInv Ao al L t vs w) {i : Nat} {v : Value} (hi : ∀ r ∈ al, r.a ≠ i ∧ r.s ≠ i) (hA : ∀ q, Ao q → Ao' q) (ht : t' = t ∨ ∃ u, t' = t ++ [u]) (hc : ∀ q c T, Ao q → Cs w q c T → Cs w' q c T) : QInv Ao' al (upd L i) t' (vs.set i v) w' := by
  have hu : ∀ r ∈ al, upd L i r.a = L r.a ∧ upd L i r.s = L r.s := fun r hr => by unfold upd; rw [if_neg (hi r hr).1, if_neg (hi r hr).2]; exact ⟨rfl, rfl⟩
  have hv : ∀ r ∈ al, (vs.set i v)[r.a]? = vs[r.a]? := fun r hr => List.getElem?_set_ne (Ne.symm (hi r hr).1)
  refine ⟨fun r hr hL => ?_, fun r hr r' hr' hne h1 h2 => ?_⟩
  · rw [(hu r hr).1] at hL
    obtain ⟨q, e1, e2, e3, e4⟩ := h.at_ r hr hL
    rw [hv r hr, (hu r hr).2]
    refine ⟨q, e1, hA q e2, ?_, fun hs => ?_⟩
    · have e5 := hc q _ _ e2 e3
      rcases ht with rfl | ⟨u, rfl⟩
      · exact e5
      · cases hs : L r.s with
        | false => rw [hs] at e5; exact e5
        | true =>
          rw [hs] at e5
          rw [List.take_append_of_le_length (e4 hs)]
          exact e5
    · have := e4 hs
      rcases ht with rfl | ⟨u, rfl⟩
      · exact this
      · rw [List.length_append]; omega
  · rw [(hu r hr).1] at h1
    rw [(hu r' hr').1] at h2
    rw [hv r hr, hv r' hr']
    exact h.ne r hr r' hr' hne h1 h2

theorem wp_region_Q {d : Bool} {id : Nat} {a0 : Act} {w0 : World} (n : Nat) (hn : a0.tmps.size = n) (hm : P.follows .mixedOrders = true) (hac : backward ops = true) (ss : List Nat) (hss : okSlots ops n ss = true) (hnd : ss.Nodup)
    (S0 : Nat → Prop) (SS : Nat → Nat → Prop) (hSS : ∀ k j, SS k j → S0 j) (l : List QPred) (stable : AllQ w0.heap.size S0 l) (c : List Nat) (hlk : linked ops c = true) (hcn : c.Nodup) (hcs : (c.all fun i => decide (i < ops.size)) = true)
    (al : List QRow) (hal : qDist al = true) (hac2 : ∀ r ∈ al, c.contains r.a = false ∧ c.contains r.s = false) (hals : ∀ r ∈ al, r.a < ops.size ∧ r.s < ops.size) (hga : ∀ r ∈ al, ∀ Z t v w, (l.getD r.a qa) Z t v w ∧ (l.getD r.s qa) Z t v w)
    (step : Each (StepQ P ops Q a0 w0 n ss S0 SS l c al) 0 ops.toList)
    (start : ∀ w1, Mod (fun j => w0.heap.size ≤ j) w0 w1 → QChain P ops Q a0 n ss w0.heap.size S0 SS l al c 0 (fun _ => False) [] w1) : (Code.region id ops d).wp P Q a0 w0 := by
  have hinj : ∀ (j k i : Nat), c[j]? = some i → c[k]? = some i → j = k := by
    intro j k i h1 h2
    exact (List.getElem?_inj (List.getElem?_eq_some_iff.1 h1).1 hcn).1 (h1.trans h2.symm)
  obtain ⟨hu1, hu2, hu3⟩ := q_uniq hal
  have fa : ∀ r ∈ al, al.find? (fun x => x.a == r.a) = some r := by
    intro r hr
    cases hq : al.find? (fun x => x.a == r.a) with
    | none => have := List.find?_eq_none.1 hq r hr; simp at this
    | some r' =>
      have e := List.find?_some hq
      rw [hu1 r' (List.mem_of_find?_eq_some hq) r hr (by simpa using e)]
  have fs : ∀ r ∈ al, al.find? (fun x => x.s == r.s) = some r := by
    intro r hr
    cases hq : al.find? (fun x => x.s == r.s) with
    | none => have := List.find?_eq_none.1 hq r hr; simp at this
    | some r' =>
      have e := List.find?_some hq
      rw [hu2 r' (List.mem_of_find?_eq_some hq) r hr (by simpa using e)]
  have fas : ∀ r ∈ al, al.find? (fun x => x.a == r.s) = none := by
    intro r hr
    rw [List.find?_eq_none]
    intro x hx
    simpa using hu3 x hx r hr
  refine wp_region_both hm (backward_spec hac) ss (fun L vs w => ∃ (Y A : Nat → Prop) (t : List Value), Mod (fun j => (j < w0.heap.size ∧ S0 j) ∨ w0.heap.size ≤ j) w0 w ∧ Mod (fun j => (j < w0.heap.size ∧ ∃ k, k < t.length ∧ SS k j) ∨ w0.heap.size ≤ j) w0 w ∧ (∀ x, ops.size ≤ x → L x = false) ∧ Down ops L ∧
      t.length ≤ c.length ∧ (∀ j p, j < t.length → c[j]? = some p → L p = true) ∧ (∀ j p, t.length ≤ j → c[j]? = some p → L p = false) ∧ (∀ j, Y j → w0.heap.size ≤ j ∧ j < w.heap.size) ∧ (∀ j, A j → w0.heap.size ≤ j ∧ j < w.heap.size ∧ ¬ Y j) ∧
      (∀ w'', Mod (fun j => w0.heap.size ≤ j ∧ ¬ Y j) w w'' → QChain P ops Q a0 n ss w0.heap.size S0 SS l al (c.drop t.length) t.length Y t w'') ∧ (∀ p v, L p = true → vs[p]? = some v → (l.getD p qa) (fun j => Y j ∨ A j) t v w) ∧ QInv A al L t vs w ∧ ∀ p, L p = false → vs[p]? = (ss.map fun s => a0.tmps.getD s undef)[p]?)
    ⟨fun _ => False, fun _ => False, [], Mod.refl _ _, Mod.refl _ _, (fun _ _ => rfl), (fun i h => by cases h), Nat.zero_le _, (fun j p h => by simp at h), (fun _ _ _ _ => rfl), (fun _ h => h.elim), (fun _ h => h.elim), (fun w'' h => start w'' (h.mono fun _ _ h => h.1)), (fun p v h => by cases h), ⟨(fun _ _ h => by cases h), (fun _ _ _ _ _ h => by cases h)⟩, fun _ _ => rfl⟩
    ⟨fun _ => False, fun _ => False, [], (Mod.refl _ _).drew, (Mod.refl _ _).drew, (fun _ _ => rfl), (fun i h => by cases h), Nat.zero_le _, (fun j p h => by simp at h), (fun _ _ _ _ => rfl), (fun _ h => h.elim), (fun _ h => h.elim), (fun w'' h => start w'' (((Mod.refl _ w0).drew).trans h fun _ _ h => h.1)), (fun p v h => by cases h), ⟨(fun _ _ h => by cases h), (fun _ _ _ _ _ h => by cases h)⟩, fun _ _ => rfl⟩ ?_ ?_
  · rintro i o ho L vs w hL hd hl ⟨Y, A, t, hmod, hmod0, hLout, hD, hkl, hk1, hk2, hY, hAb, hC, hV, hA, hU⟩
    have hst := Each.get _ 0 step i o (by simpa using ho)
    rw [Nat.zero_add] at hst
    obtain ⟨s, hs, hds⟩ := okSlots_at hss ho
    have haf : ∀ x ∈ afterOf ops i, L x = true := by
      intro x hx
      obtain ⟨o', ho', e, he, hb, rfl⟩ := mem_afterOf.1 hx
      rw [ho] at ho'
      cases ho'
      exact hd e he hb
    have hDn : Down ops (upd L i) := by
      intro j hj x hx
      unfold upd at hj ⊢
      by_cases e : x = i
      · rw [if_pos e]
      · rw [if_neg e]
        by_cases e2 : j = i
        · subst e2; exact haf x hx
        · rw [if_neg e2] at hj; exact hD j hj x hx
    have hLn : ∀ x, ops.size ≤ x → upd L i x = false := fun x hx => by
      have hi := (Array.getElem?_eq_some_iff.1 ho).1
      unfold upd
      rw [if_neg (by omega)]
      exact hLout x hx
    have hGk : ∀ k' : Nat, c[k']? = some i → k' = t.length := by
      intro k' hk'
      have hall := linked_all hD hlk k' i hk' haf
      rcases Nat.lt_trichotomy k' t.length with h | h | h
      · have := hk1 k' i h hk'; rw [hL] at this; cases this
      · exact h
      · have hlt : t.length < c.length := by have := (List.getElem?_eq_some_iff.1 hk').1; omega
        have := hall t.length c[t.length] h (List.getElem?_eq_getElem hlt)
        rw [hk2 t.length c[t.length] (Nat.le_refl _) (List.getElem?_eq_getElem hlt)] at this
        cases this
    have hub : ∀ k q, c[k]? = some q → (clo ops ops.size (afterOf ops q)).contains i = true → t.length ≤ k := by
      intro k q hq hc
      rcases Nat.lt_or_ge k t.length with h | h
      · have h1 := hk1 k q h hq
        have h2 := clo_done hD _ _ (fun x hx => hD q h1 x hx) i (by simpa using hc)
        rw [hL] at h2
        cases h2
      · exact h
    have hlt : i < vs.length := by rw [hl]; exact (List.getElem?_eq_some_iff.1 hs).1
    have hput : ∀ v, (putAll a0 ss vs).put o.dst v = putAll a0 ss (vs.set i v) := by
      intro v
      have e1 := putAll_put _ _ a0 i s v hnd hl hs
      rcases hds with ⟨h1, h2⟩ | ⟨h1, h2⟩
      · rw [h1]; exact e1
      · rw [h1, ← e1, put_far _ (by rw [putAll_size, hn]; exact h2)]; rfl
    have hpred : ∀ e ∈ o.after, Region.binds .any e = true → ∀ s', (ops[e.on]?).bind (·.dst) = some s' → (l.getD e.on qa) (fun j => Y j ∨ A j) t ((putAll a0 ss vs).eval (.tmp s')) w := by
      intro e he hb s' hs'
      have hLe := hd e he hb
      cases hoe : ops[e.on]? with
      | none => rw [hoe] at hs'; cases hs'
      | some o2 =>
        rw [hoe] at hs'
        obtain ⟨s2, hs2, hds2⟩ := okSlots_at hss hoe
        rcases hds2 with ⟨h1, h2⟩ | ⟨h1, h2⟩
        · have e3 : s2 = s' := Option.some.inj (h1.symm.trans hs')
          subst e3
          have hvl : e.on < vs.length := by rw [hl]; exact (List.getElem?_eq_some_iff.1 hs2).1
          rw [eval_in a0 ss vs e.on s2 vs[e.on] hnd hl hs2 (by rw [hn]; exact h2) (List.getElem?_eq_getElem hvl)]
          exact hV _ _ hLe (List.getElem?_eq_getElem hvl)
        · have : (none : Option Nat) = some s' := h1.symm.trans hs'
          cases this
    have hUn : ∀ v, ∀ p, upd L i p = false → (vs.set i v)[p]? = (ss.map fun s => a0.tmps.getD s undef)[p]? := by
      intro v p hp
      unfold upd at hp
      by_cases e : p = i
      · rw [if_pos e] at hp; cases hp
      · rw [if_neg e] at hp
        rw [List.getElem?_set_ne (Ne.symm e)]
        exact hU p hp
    have hpre : ∀ j s, (ops[j]?).bind (·.dst) = some s → (clo ops ops.size (afterOf ops j)).contains i = true → (putAll a0 ss vs).eval (.tmp s) = a0.eval (.tmp s) := by
      intro j s hj hc
      have hLj : L j = false := by
        cases hq : L j with
        | false => rfl
        | true =>
          have := clo_done hD _ _ (fun x hx => hD j hq x hx) i (by simpa using hc)
          rw [hL] at this
          cases this
      cases hoj : ops[j]? with
      | none => rw [hoj] at hj; cases hj
      | some o2 =>
        rw [hoj] at hj
        obtain ⟨s2, hs2, hds2⟩ := okSlots_at hss hoj
        rcases hds2 with ⟨h1, h2⟩ | ⟨h1, h2⟩
        · have e3 : s2 = s := Option.some.inj (h1.symm.trans hj)
          subst e3
          have hju := hU j hLj
          rw [List.getElem?_map, hs2] at hju
          exact eval_in a0 ss vs j s2 _ hnd hl hs2 (by rw [hn]; exact h2) hju
        · have : (none : Option Nat) = some s := h1.symm.trans hj
          cases this
    have hwant : o.guard = none → Region.wanted o (yielded ops (putAll a0 ss vs).tmps) = true := fun h => by simp [Region.wanted, h]
    have hZb : ∀ j, (Y j ∨ A j) → w0.heap.size ≤ j ∧ j < w.heap.size := fun j h => h.elim (hY j) (fun h => ⟨(hAb j h).1, (hAb j h).2.1⟩)
    have hout : ∀ t, t ∉ ss → (putAll a0 ss vs).eval (.tmp t) = a0.eval (.tmp t) := fun t ht => eval_out _ _ _ _ ht
    have hsz : ∀ s, s < n → s < (putAll a0 ss vs).tmps.size := fun t ht => by rw [putAll_size, hn]; exact ht
    have hnc : ∀ {p : Nat}, c.contains i = false → ∀ j, c[j]? = some p → ¬ p = i := fun hci j hp e => by
      subst e
      have : _ ∈ c := List.mem_of_getElem? hp
      simp [this] at hci
    unfold StepQ at hst
    by_cases hci : c.contains i = true
    · -- one of the chain
      obtain ⟨k', hk'⟩ := List.getElem?_of_mem (show i ∈ c by simpa using hci)
      have hkt := hGk k' hk'
      subst hkt
      have hdrop : c.drop t.length = i :: c.drop (t.length + 1) := by
        have hl2 := (List.getElem?_eq_some_iff.1 hk').1
        rw [List.drop_eq_getElem_cons hl2, (List.getElem?_eq_some_iff.1 hk').2]
      have hch := hC w (Mod.refl _ _)
      rw [hdrop] at hch
      refine wpOp_mono ?_ (hch (fun j => Y j ∨ A j) (putAll a0 ss vs) (fun j h => Or.inl h) hZb hout hsz (fun o' ho' e he hb s' hs' => by
        rw [ho] at ho'
        cases ho'
        exact hpred e he hb s' hs') hpre)
      rintro a' w' ⟨o', v, ho', rfl, hm', hv, hnext⟩
      rw [ho] at ho'
      cases ho'
      have hna : ∀ r ∈ al, r.a ≠ i ∧ r.s ≠ i := fun r hr => ⟨fun e => (by have := (hac2 r hr).1; rw [e, hci] at this; cases this), fun e => (by have := (hac2 r hr).2; rw [e, hci] at this; cases this)⟩
      have hmz : Mod (fun j => (j < w0.heap.size ∧ S0 j) ∨ (w0.heap.size ≤ j ∧ (Y j ∨ A j))) w w' := hm'.mono fun j _ h => h.elim (fun h => Or.inl ⟨h.1, hSS _ _ h.2⟩) (fun h => Or.inr ⟨(hY j h).1, Or.inl h⟩)
      refine ⟨vs.set i v, hput v, by simpa using hl, fun j => Y j ∨ (w.heap.size ≤ j ∧ j < w'.heap.size), A, t ++ [v], hmod.trans hm' (fun j _ h => h.elim (fun h => Or.inl ⟨h.1, hSS _ _ h.2⟩) (fun h => Or.inr (hY j h).1)), (Mod.trans (hmod0.mono (fun j _ h => h.elim (fun ⟨h1, k, h2, h3⟩ => Or.inl ⟨h1, k, (by rw [List.length_append]; omega), h3⟩) Or.inr)) hm' (fun j _ h => h.elim (fun h => Or.inl ⟨h.1, t.length, (by simp), h.2⟩) (fun h => Or.inr (hY j h).1))), hLn, hDn, ?_, fun j p hj hp => ?_, fun j p hj hp => ?_,
        (fun j h => h.elim (fun h => ⟨(hY j h).1, Nat.lt_of_lt_of_le (hY j h).2 hm'.size⟩) (fun h => ⟨Nat.le_trans hmod.size h.1, h.2⟩)), (fun j h => ⟨(hAb j h).1, Nat.lt_of_lt_of_le (hAb j h).2.1 hm'.size, fun hn => hn.elim (hAb j h).2.2 (fun hn => by have := (hAb j h).2.1; omega)⟩),
        ?_, fun p u hp hu => ?_, hA.other hna (fun _ h => h) (Or.inr ⟨v, rfl⟩) (fun q cc T hq hcs => hcs.mod hm' (fun h => h.elim (fun h => by have := (hAb q hq).1; omega) (hAb q hq).2.2)), hUn v⟩
      · rw [List.length_append]
        have := (List.getElem?_eq_some_iff.1 hk').1
        simp; omega
      · unfold upd
        by_cases e : p = i
        · rw [if_pos e]
        · rw [if_neg e]
          refine hk1 j p ?_ hp
          rw [List.length_append] at hj
          simp at hj
          by_cases e2 : j = t.length
          · subst e2
            rw [hk'] at hp
            exact absurd (Option.some.inj hp).symm e
          · omega
      · rw [List.length_append] at hj
        simp at hj
        unfold upd
        have e : ¬ p = i := fun e => by subst e; have := hGk j hp; omega
        rw [if_neg e]
        exact hk2 j p (by omega) hp
      · intro w'' h''
        rw [List.length_append]
        exact hnext w'' h''
      · by_cases e : p = i
        · subst e
          rw [List.getElem?_set_self', List.getElem?_eq_getElem hlt] at hu
          simp at hu
          subst hu
          exact hv _
        · rw [List.getElem?_set_ne (Ne.symm e)] at hu
          unfold upd at hp
          rw [if_neg e] at hp
          exact (AllQ.get l stable p).on _ _ _ _ _ _ _ (hV p u hp hu) hmz (fun j h => h.elim (fun h => h.elim (fun h => Or.inl (Or.inl h)) (fun h => Or.inr h.1)) (fun h => Or.inl (Or.inr h))) (Or.inr ⟨v, rfl⟩)
    rw [if_neg hci] at hst
    have hci' : c.contains i = false := by simpa using hci
    by_cases hma : ∃ r ∈ al, r.a = i
    · -- a new variable is made
      obtain ⟨r, hr, rfl⟩ := hma
      rw [fa r hr] at hst
      obtain ⟨m0, m1, m2, m5⟩ := hst
      obtain ⟨info, hi, hz⟩ := (show ∃ info, P.info? r.T = some info ∧ info.zero = some (.agg r.z.toArray) by
        cases hq : P.info? r.T with
        | none => rw [hq] at m2; cases m2
        | some i => rw [hq] at m2; exact ⟨i, rfl, m2⟩)
      have hrun : (execOp (putAll a0 ss vs).eval o).run P w = .ok (.value (.pointer (some ⟨w.heap.size, 0, none⟩))) (w.alloc (.cells r.z.toArray r.T)) := ex_alloc (P := P) (a := putAll a0 ss vs) (w := w) m1 hi hz
      have hmal : Mod (fun _ => False) w (w.alloc (.cells r.z.toArray r.T)) := (Mod.refl _ _).alloc _
      have hsza : (w.alloc (.cells r.z.toArray r.T)).heap.size = w.heap.size + 1 := by simp
      refine wpOp_step ho fun K' hK' => ?_
      rw [if_pos (hwant m0)]
      unfold Oper.wp
      rw [hrun]
      refine hK' _ _ ⟨vs.set r.a _, hput _, by simpa using hl, Y, fun j => A j ∨ j = w.heap.size, t, hmod.trans hmal (fun _ _ h => h.elim), (hmod0.trans hmal (fun _ _ h => h.elim)), hLn, hDn, hkl, fun j p hj hp => ?_, fun j p hj hp => ?_,
        (fun j h => ⟨(hY j h).1, by have := (hY j h).2; omega⟩), (fun j h => ?_), (fun w'' h => hC w'' (((Mod.refl _ w).alloc _).trans h (fun _ _ h => h))), fun p u hp hu => ?_, ⟨fun r' hr' hL' => ?_, fun r1 hr1 r2 hr2 hne h1 h2 => ?_⟩, hUn _⟩
      · unfold upd; rw [if_neg (hnc hci' j hp)]; exact hk1 j p hj hp
      · unfold upd; rw [if_neg (hnc hci' j hp)]; exact hk2 j p hj hp
      · rcases h with h | rfl
        · have := hAb j h
          exact ⟨this.1, by omega, this.2.2⟩
        · exact ⟨hmod.size, by omega, fun h => by have := (hY _ h).2; omega⟩
      · by_cases e : p = r.a
        · subst e; exact (hga r hr _ _ _ _).1
        · rw [List.getElem?_set_ne (Ne.symm e)] at hu
          unfold upd at hp
          rw [if_neg e] at hp
          exact (AllQ.get l stable p).on _ _ _ _ _ _ _ (hV p u hp hu) (hmal.mono fun _ _ h => h.elim) (fun j h => h.elim (fun h => Or.inl (Or.inl h)) (fun h => h.elim (fun h => Or.inl (Or.inr h)) (fun h => Or.inr (by omega)))) (Or.inl rfl)
      · have hs1 : upd L r.a r'.s = L r'.s := by unfold upd; rw [if_neg (fun e => hu3 r hr r' hr' e.symm)]
        by_cases e : r'.a = r.a
        · obtain rfl := hu1 r' hr' r hr e
          refine ⟨w.heap.size, by simp [hlt], Or.inr rfl, ?_, ?_⟩ <;> rw [hs1]
          all_goals
            have hls0 : L r'.s = false := by
              cases hls : L r'.s with
              | false => rfl
              | true =>
                have hos : ∃ o', ops[r'.s]? = some o' := by
                  cases hq : ops[r'.s]? with
                  | some o' => exact ⟨o', rfl⟩
                  | none => exact absurd hls (by rw [hLout r'.s (by simpa using hq)]; decide)
                obtain ⟨o', ho'⟩ := hos
                have h9 := Each.get _ 0 step r'.s o' (by simpa using ho')
                rw [Nat.zero_add] at h9
                unfold StepQ at h9
                rw [if_neg (by rw [(hac2 r' hr').2]; decide), fas r' hr', fs r' hr'] at h9
                obtain ⟨-, sa, y, -, -, -, hcl, -⟩ := h9
                have := clo_done hD _ _ (fun x hx => hD r'.s hls x hx) r'.a (by simpa using hcl)
                rw [hL] at this
                cases this
            rw [hls0]
          · exact Cs.new _ _ _
          · intro h; cases h
        · have hL2 : L r'.a = true := by unfold upd at hL'; rwa [if_neg e] at hL'
          obtain ⟨q, e1, e2, e3, e4⟩ := hA.at_ r' hr' hL2
          refine ⟨q, by rw [List.getElem?_set_ne (Ne.symm e)]; exact e1, Or.inl e2, ?_, ?_⟩ <;> rw [hs1]
          · exact e3.alloc _
          · exact e4
      · have key : ∀ r' ∈ al, r'.a ≠ r.a → L r'.a = true → vs[r'.a]? ≠ some (.pointer (some ⟨w.heap.size, 0, none⟩)) := by
          intro r' hr' hne' hL' he
          obtain ⟨q, e1, e2, e3, _⟩ := hA.at_ r' hr' hL'
          rw [e1] at he
          have := e3.lt
          cases he
          omega
        by_cases e1 : r1.a = r.a
        · have e2 : r2.a ≠ r.a := fun e => hne (e1.trans e.symm)
          rw [e1, List.getElem?_set_self hlt, List.getElem?_set_ne (Ne.symm e2)]
          unfold upd at h2
          rw [if_neg e2] at h2
          exact fun he => key r2 hr2 e2 h2 he.symm
        · by_cases e2 : r2.a = r.a
          · rw [e2, List.getElem?_set_self hlt, List.getElem?_set_ne (Ne.symm e1)]
            unfold upd at h1
            rw [if_neg e1] at h1
            exact key r1 hr1 e1 h1
          · rw [List.getElem?_set_ne (Ne.symm e1), List.getElem?_set_ne (Ne.symm e2)]
            unfold upd at h1 h2
            rw [if_neg e1] at h1
            rw [if_neg e2] at h2
            exact hA.ne r1 hr1 r2 hr2 hne h1 h2
    by_cases hsa : ∃ r ∈ al, r.s = i
    · -- a new variable is written
      obtain ⟨r, hr, rfl⟩ := hsa
      rw [fas r hr, fs r hr] at hst
      obtain ⟨m0, sa, y, hsl, hsn, hop, hcl, hval⟩ := hst
      have hLa : L r.a = true := clo_done hD _ _ (fun x hx => haf x hx) r.a (by simpa using hcl)
      obtain ⟨q, e1, e2, e3, _⟩ := hA.at_ r hr hLa
      rw [if_neg (by rw [hL]; decide)] at e3
      obtain ⟨hrk, hy, hlen, hone⟩ := hval (fun j => Y j ∨ A j) t (putAll a0 ss vs) w hmod hout hsz hpred hpre
      have hoa : ∃ oa, ops[r.a]? = some oa := by
        cases hq : ops[r.a]? with
        | some o' => exact ⟨o', rfl⟩
        | none => rw [hq] at hsl; cases hsl
      obtain ⟨oa, hoa⟩ := hoa
      have h9 := Each.get _ 0 step r.a oa (by simpa using hoa)
      rw [Nat.zero_add] at h9
      unfold StepQ at h9
      rw [if_neg (by rw [(hac2 r hr).1]; decide), fa r hr] at h9
      obtain ⟨-, -, -, hisz⟩ := h9
      have hev : (putAll a0 ss vs).eval (.tmp sa) = .pointer (some ⟨q, 0, none⟩) := by
        rw [hoa] at hsl
        obtain ⟨s2, hs2, hds2⟩ := okSlots_at hss hoa
        rcases hds2 with ⟨h1, h2⟩ | ⟨h1, h2⟩
        · have e3 : s2 = sa := Option.some.inj (h1.symm.trans hsl)
          subst e3
          exact eval_in a0 ss vs r.a s2 _ hnd hl hs2 (by rw [hn]; exact h2) e1
        · have : (none : Option Nat) = some sa := h1.symm.trans hsl
          cases this
      have hrun := ex_storeA (P := P) hop e3 (off := 0) (vs := r.c (t.take r.k)) (by rw [hisz, hlen]) hone (by simp [hlen]) hev hy
      rw [lay_whole _ _ (by simp [hlen])] at hrun
      have hmst : Mod (fun k => k = q) w (w.setRow q (r.c (t.take r.k)).toArray) := setRow_Mod
      have hqb := hAb q e2
      have hmy : Mod (fun j => w0.heap.size ≤ j ∧ ¬ Y j) w (w.setRow q (r.c (t.take r.k)).toArray) := hmst.mono fun k _ h => by subst h; exact ⟨hqb.1, hqb.2.2⟩
      refine wpOp_step ho fun K' hK' => ?_
      rw [if_pos (hwant m0)]
      unfold Oper.wp
      rw [hrun]
      refine hK' _ _ ⟨vs.set r.s _, hput _, by simpa using hl, Y, A, t, hmod.trans hmy (fun j _ h => Or.inr h.1), (hmod0.trans hmy (fun j _ h => Or.inr h.1)), hLn, hDn, hkl, fun j p hj hp => ?_, fun j p hj hp => ?_,
        (fun j h => ⟨(hY j h).1, Nat.lt_of_lt_of_le (hY j h).2 hmst.size⟩), (fun j h => ⟨(hAb j h).1, Nat.lt_of_lt_of_le (hAb j h).2.1 hmst.size, (hAb j h).2.2⟩), (fun w'' h => hC w'' (hmy.trans h (fun _ _ h => h))), fun p u hp hu => ?_, ⟨fun r' hr' hL' => ?_, fun r1 hr1 r2 hr2 hne h1 h2 => ?_⟩, hUn _⟩
      · unfold upd; rw [if_neg (hnc hci' j hp)]; exact hk1 j p hj hp
      · unfold upd; rw [if_neg (hnc hci' j hp)]; exact hk2 j p hj hp
      · by_cases e : p = r.s
        · subst e; exact (hga r hr _ _ _ _).2
        · rw [List.getElem?_set_ne (Ne.symm e)] at hu
          unfold upd at hp
          rw [if_neg e] at hp
          exact (AllQ.get l stable p).on _ _ _ _ _ _ _ (hV p u hp hu) (hmst.mono fun k _ h => by subst h; exact Or.inr ⟨hqb.1, Or.inr e2⟩) (fun j h => Or.inl h) (Or.inl rfl)
      · have ha1 : r'.a ≠ r.s := hu3 r' hr' r hr
        have hL2 : L r'.a = true := by unfold upd at hL'; rwa [if_neg ha1] at hL'
        obtain ⟨q', e1', e2', e3', e4'⟩ := hA.at_ r' hr' hL2
        refine ⟨q', by rw [List.getElem?_set_ne (Ne.symm ha1)]; exact e1', e2', ?_, ?_⟩
        · by_cases e : r'.s = r.s
          · obtain rfl := hu2 r' hr' r hr e
            rw [e1] at e1'
            cases e1'
            unfold upd
            rw [if_pos rfl, if_pos rfl]
            exact setRow_Cs e3
          · have : upd L r.s r'.s = L r'.s := by unfold upd; rw [if_neg e]
            rw [this]
            have hq : q' ≠ q := by
              rintro rfl
              refine hA.ne r' hr' r hr (fun ea => ?_) hL2 hLa (by rw [e1', e1])
              obtain rfl := hu1 r' hr' r hr ea
              exact e rfl
            exact e3'.mod hmst hq
        · intro h
          by_cases e : r'.s = r.s
          · obtain rfl := hu2 r' hr' r hr e
            exact hrk
          · unfold upd at h
            rw [if_neg e] at h
            exact e4' h
      · have a1 : r1.a ≠ r.s := hu3 r1 hr1 r hr
        have a2 : r2.a ≠ r.s := hu3 r2 hr2 r hr
        rw [List.getElem?_set_ne (Ne.symm a1), List.getElem?_set_ne (Ne.symm a2)]
        unfold upd at h1 h2
        rw [if_neg a1] at h1
        rw [if_neg a2] at h2
        exact hA.ne r1 hr1 r2 hr2 hne h1 h2
    -- beside the chain
    have na : al.find? (fun r => r.a == i) = none := by
      rw [List.find?_eq_none]
      intro r hr h
      exact hma ⟨r, hr, by simpa using h⟩
    have ns : al.find? (fun r => r.s == i) = none := by
      rw [List.find?_eq_none]
      intro r hr h
      exact hsa ⟨r, hr, by simpa using h⟩
    rw [na, ns] at hst
    refine wpOp_mono ?_ (hst (fun j => Y j ∨ A j) t (putAll a0 ss vs) w hZb hmod hmod0 hout hsz hpred hub hpre)
    rintro a' w' ⟨v, rfl, he, hv⟩
    have hmy : Mod (fun j => w0.heap.size ≤ j ∧ ¬ Y j) w w' := he.mod (fun j h => Or.inl h)
    refine ⟨vs.set i v, hput v, by simpa using hl, Y, A, t, hmod.trans hmy (fun j _ h => Or.inr h.1), (hmod0.trans hmy (fun j _ h => Or.inr h.1)), hLn, hDn, hkl, fun j p hj hp => ?_, fun j p hj hp => ?_,
      (fun j h => ⟨(hY j h).1, Nat.lt_of_lt_of_le (hY j h).2 he.size⟩), (fun j h => ⟨(hAb j h).1, Nat.lt_of_lt_of_le (hAb j h).2.1 he.size, (hAb j h).2.2⟩), (fun w'' h => hC w'' (hmy.trans h (fun _ _ h => h))), fun p u hp hu => ?_,
      hA.other (fun r hr => ⟨fun e => hma ⟨r, hr, e⟩, fun e => hsa ⟨r, hr, e⟩⟩) (fun _ h => h) (Or.inl rfl) (fun q cc T hq hcs => ?_), hUn v⟩
    · unfold upd; rw [if_neg (hnc hci' j hp)]; exact hk1 j p hj hp
    · unfold upd; rw [if_neg (hnc hci' j hp)]; exact hk2 j p hj hp
    · by_cases e : p = i
      · subst e
        rw [List.getElem?_set_self', List.getElem?_eq_getElem hlt] at hu
        simp at hu
        subst hu
        exact hv
      · rw [List.getElem?_set_ne (Ne.symm e)] at hu
        unfold upd at hp
        rw [if_neg e] at hp
        exact (AllQ.get l stable p).env _ _ _ _ _ (hV p u hp hu) he
    · rcases he.block q hcs.lt with h | ⟨-, h, -⟩
      · exact h.trans hcs
      · exact absurd (Or.inr hq) h
  · rintro L vs w hL hl ⟨Y, A, t, hmod, hmod0, hLout, hD, hkl, hk1, hk2, hY, hAb, hC, hV, hA, hU⟩
    have hk : t.length = c.length := by
      rcases Nat.lt_or_ge t.length c.length with h | h
      · have h1 := hk2 t.length c[t.length] (Nat.le_refl _) (List.getElem?_eq_getElem h)
        rw [hL c[t.length] (by simpa using List.all_eq_true.1 hcs _ (List.getElem_mem h))] at h1
        cases h1
      · omega
    have hsl : ss.length = ops.size := by
      unfold okSlots at hss
      rw [Bool.and_eq_true] at hss
      simpa using hss.1
    have h0 := hC w (Mod.refl _ _)
    rw [List.drop_of_length_le (by omega)] at h0
    refine h0 vs hl ⟨fun j => Y j ∨ A j, (fun j h => Or.inl h), (fun j h => h.elim (hY j) (fun h => ⟨(hAb j h).1, (hAb j h).2.1⟩)), fun p v hv => hV p v (hL p (by have := (List.getElem?_eq_some_iff.1 hv).1; omega)) hv⟩ (fun r hr => ?_) (fun r hr r' hr' hne => hA.ne r hr r' hr' hne (hL _ (hals r hr).1) (hL _ (hals r' hr').1))
    obtain ⟨q, e1, e2, e3, _⟩ := hA.at_ r hr (hL _ (hals r hr).1)
    rw [if_pos (hL _ (hals r hr).2)] at e3
    exact ⟨q, e1, (hAb q e2).1, (hAb q e2).2.2, e3⟩

theorem Mod.two {S S' : Nat → Prop} {a b c : World} (h : Mod S a b) (k : Mod S' b c) : Mod (fun j => S j ∨ S' j) a c :=
  ⟨k.os.trans h.os, k.tape.trans h.tape, k.output.trans h.output, Nat.le_trans h.size k.size, fun i hi hn => (k.block i (Nat.lt_of_lt_of_le hi h.size) (fun hS => hn (Or.inr hS))).trans (h.block i hi (fun hS => hn (Or.inl hS)))⟩
theorem Mod.after {S : Nat → Prop} {a b c : World} (h : Mod (fun _ => False) a b) (k : Mod S b c) : Mod S a c := (h.mono (fun _ _ h => h.elim)).trans k (fun _ _ h => h)
variable {SS : Nat → Nat → Prop} {k : Nat} {a0 : Act} {w0 : World} {n : Nat} {ss : List Nat} {l : List QPred} {al : List QRow} {i : Nat} {c : List Nat} {o : Oper} {a : Act} {v : Value}
theorem QChain.nil (h : ∀ vs, vs.length = ss.length → (∃ Z : Nat → Prop, (∀ j, Y j → Z j) ∧ (∀ j, Z j → B ≤ j ∧ j < w.heap.size) ∧ ∀ p v, vs[p]? = some v → (l.getD p qa) Z t v w) →
      (∀ r ∈ al, ∃ q, vs[r.a]? = some (.pointer (some ⟨q, 0, none⟩)) ∧ B ≤ q ∧ ¬ Y q ∧ Cs w q (r.c (t.take r.k)).toArray r.T) → (∀ r ∈ al, ∀ r' ∈ al, r.a ≠ r'.a → vs[r.a]? ≠ vs[r'.a]?) → Q .normal (putAll a0 ss vs) w) : QChain P ops Q a0 n ss B S0 SS l al [] k Y t w := h
/-- what one of the chain leaves -/
def QPost (P : Program) (ops : Array Oper) (Q : Exit → Act → World → Prop) (a0 : Act) (n : Nat) (ss : List Nat) (B : Nat) (S0 : Nat → Prop) (SS : Nat → Nat → Prop) (l : List QPred) (al : List QRow) (i : Nat) (c : List Nat) (k : Nat) (Y : Nat → Prop) (t : List Value) (w : World) (v : Value) (w' : World) : Prop :=
  Mod (fun j => (j < B ∧ SS k j) ∨ Y j) w w' ∧ (∀ Z, (l.getD i qa) Z (t ++ [v]) v w') ∧
    ∀ w'', Mod (fun j => B ≤ j ∧ ¬ (Y j ∨ (w.heap.size ≤ j ∧ j < w'.heap.size))) w' w'' → QChain P ops Q a0 n ss B S0 SS l al c (k + 1) (fun j => Y j ∨ (w.heap.size ≤ j ∧ j < w'.heap.size)) (t ++ [v]) w''
theorem QChain.cons (ho : ops[i]? = some o) (h : ∀ Z a, (∀ j, Y j → Z j) → (∀ j, Z j → B ≤ j ∧ j < w.heap.size) → (∀ t, t ∉ ss → a.eval (.tmp t) = a0.eval (.tmp t)) → (∀ s, s < n → s < a.tmps.size) →
      (∀ e ∈ o.after, Region.binds .any e = true → ∀ s, (ops[e.on]?).bind (·.dst) = some s → (l.getD e.on qa) Z t (a.eval (.tmp s)) w) →
      (∀ j s, (ops[j]?).bind (·.dst) = some s → (clo ops ops.size (afterOf ops j)).contains i = true → a.eval (.tmp s) = a0.eval (.tmp s)) → 
      wpOp P ops Q i (fun a' w' => ∃ v, a' = a.put o.dst v ∧ QPost P ops Q a0 n ss B S0 SS l al i c k Y t w v w') a w) : QChain P ops Q a0 n ss B S0 SS l al (i :: c) k Y t w := by
  intro Z a h1 h2 h3 h4 h5 h6
  refine wpOp_mono ?_ (h Z a h1 h2 h3 h4 (fun e he hb s hs => h5 o ho e he hb s hs) h6)
  rintro a' w' ⟨v, h7, h8, h9, h10⟩
  exact ⟨o, v, ho, h7, h8, h9, h10⟩
theorem stepq_chain (h : c.contains i = true) : StepQ P ops Q a0 w0 n ss S0 SS l c al i o := by unfold StepQ; rw [if_pos h]; trivial
theorem stepq_make (h : c.contains i = false) {r : QRow} (hr : al.find? (fun r => r.a == i) = some r) (hm : MakesQ P r o) : StepQ P ops Q a0 w0 n ss S0 SS l c al i o := by
  unfold StepQ; rw [if_neg (by rw [h]; decide), hr]; exact hm
theorem stepq_write (h : c.contains i = false) (h0 : al.find? (fun r => r.a == i) = none) {r : QRow} (hr : al.find? (fun r => r.s == i) = some r) (hm : WritesQ ops a0 w0 n ss S0 l r i o) : StepQ P ops Q a0 w0 n ss S0 SS l c al i o := by
  unfold StepQ; rw [if_neg (by rw [h]; decide), h0, hr]; exact hm
theorem stepq_env (h : c.contains i = false) (h0 : al.find? (fun r => r.a == i) = none) (h1 : al.find? (fun r => r.s == i) = none)
    (hs : ∀ (Z : Nat → Prop) t a w, (∀ j, Z j → w0.heap.size ≤ j ∧ j < w.heap.size) → Mod (fun j => (j < w0.heap.size ∧ S0 j) ∨ w0.heap.size ≤ j) w0 w → Mod (fun j => (j < w0.heap.size ∧ ∃ k, k < t.length ∧ SS k j) ∨ w0.heap.size ≤ j) w0 w → (∀ t, t ∉ ss → a.eval (.tmp t) = a0.eval (.tmp t)) → (∀ s, s < n → s < a.tmps.size) →
        (∀ e ∈ o.after, Region.binds .any e = true → ∀ s, (ops[e.on]?).bind (·.dst) = some s → (l.getD e.on qa) Z t (a.eval (.tmp s)) w) → (∀ k q, c[k]? = some q → (clo ops ops.size (afterOf ops q)).contains i = true → t.length ≤ k) → (∀ j s, (ops[j]?).bind (·.dst) = some s → (clo ops ops.size (afterOf ops j)).contains i = true → a.eval (.tmp s) = a0.eval (.tmp s)) → 
        wpOp P ops Q i (QJ w0.heap.size l Z i o t a w) a w) : StepQ P ops Q a0 w0 n ss S0 SS l c al i o := by
  unfold StepQ; rw [if_neg (by rw [h]; decide), h0, h1]; exact hs
theorem qe_run (ho : ops[i]? = some o) (hw : Region.wanted o (yielded ops a.tmps) = true) (hr : (execOp a.eval o).run P w = .ok (.value v) w') (hm : QE B Z w w') (hv : (l.getD i qa) Z t v w') : wpOp P ops Q i (QJ B l Z i o t a w) a w := by
  refine wpOp_step ho fun K' hK' => ?_
  rw [if_pos hw]
  unfold Oper.wp
  rw [hr]
  exact hK' _ _ ⟨v, rfl, hm, hv⟩
theorem qe_skip (ho : ops[i]? = some o) (hw : Region.wanted o (yielded ops a.tmps) = false) (hv : (l.getD i qa) Z t undef w) : wpOp P ops Q i (QJ B l Z i o t a w) a w := by
  refine wpOp_step ho fun K' hK' => ?_
  rw [if_neg (by rw [hw]; decide)]
  exact hK' _ _ ⟨undef, rfl, QE.refl, hv⟩
theorem qe_call (ho : ops[i]? = some o) (hw : Region.wanted o (yielded ops a.tmps) = true) {f : FuncId} {args : Array Value} {post : Ending → World → Prop} (hr : (execOp a.eval o).run P w = .ok (.enter f args) w) (hcl : Calls P f args w post)
    (hp : ∀ e w', post e w' → ∃ v, e = .returned v ∧ QE B Z w w' ∧ (l.getD i qa) Z t v w') : wpOp P ops Q i (QJ B l Z i o t a w) a w := by
  refine wpOp_step ho fun K' hK' => ?_
  rw [if_pos hw]
  unfold Oper.wp
  rw [hr]
  exact hcl.mono fun e w' he => by
    obtain ⟨v, rfl, h1, h2⟩ := hp e w' he
    exact hK' _ _ ⟨v, rfl, h1, h2⟩
/-- an operation that is done only where a test says so -/
theorem qe_guard {b : Bool} (ho : ops[i]? = some o) (hw : Region.wanted o (yielded ops a.tmps) = b) {p : QPred} (hp : l.getD i qa = qc b p)
    (h1 : b = true → ∀ l', l'.getD i qa = p → wpOp P ops Q i (QJ B l' Z i o t a w) a w) : wpOp P ops Q i (QJ B l Z i o t a w) a w := by
  cases b with
  | false => exact qe_skip ho hw (by rw [hp]; exact ⟨(fun h => by cases h), fun _ => rfl⟩)
  | true =>
    have h2 := h1 rfl (List.replicate i qa ++ [p]) (by simp [List.getD])
    refine wpOp_mono ?_ h2
    rintro a' w' ⟨v, h3, h4, h5⟩
    refine ⟨v, h3, h4, ?_⟩
    rw [hp]
    refine ⟨fun _ => ?_, fun h => by cases h⟩
    simpa [List.getD] using h5
theorem qc_run {KQ : Value → World → Prop} (ho : ops[i]? = some o) (hw : Region.wanted o (yielded ops a.tmps) = true) (hr : (execOp a.eval o).run P w = .ok (.value v) w') (h : KQ v w') : wpOp P ops Q i (fun a' w' => ∃ v, a' = a.put o.dst v ∧ KQ v w') a w := by
  refine wpOp_step ho fun K' hK' => ?_
  rw [if_pos hw]
  unfold Oper.wp
  rw [hr]
  exact hK' _ _ ⟨v, rfl, h⟩
theorem qc_turn {KQ : Value → World → Prop} (ho : ops[i]? = some o) (hw : Region.wanted o (yielded ops a.tmps) = true) (hr : (execOp a.eval o).run P w = .ok .skip w') (h : KQ undef w') : wpOp P ops Q i (fun a' w' => ∃ v, a' = a.put o.dst v ∧ KQ v w') a w := by
  refine wpOp_step ho fun K' hK' => ?_
  rw [if_pos hw]
  unfold Oper.wp
  rw [hr]
  exact hK' _ _ ⟨undef, rfl, h⟩
theorem qc_skip {KQ : Value → World → Prop} (ho : ops[i]? = some o) (hw : Region.wanted o (yielded ops a.tmps) = false) (h : KQ undef w) : wpOp P ops Q i (fun a' w' => ∃ v, a' = a.put o.dst v ∧ KQ v w') a w := by
  refine wpOp_step ho fun K' hK' => ?_
  rw [if_neg (by rw [hw]; decide)]
  exact hK' _ _ ⟨undef, rfl, h⟩
theorem qc_call {KQ : Value → World → Prop} (ho : ops[i]? = some o) (hw : Region.wanted o (yielded ops a.tmps) = true) {f : FuncId} {args : Array Value} {post : Ending → World → Prop} (hr : (execOp a.eval o).run P w = .ok (.enter f args) w) (hcl : Calls P f args w post)
    (hp : ∀ e w', post e w' → ∃ v, e = .returned v ∧ KQ v w') : wpOp P ops Q i (fun a' w' => ∃ v, a' = a.put o.dst v ∧ KQ v w') a w := by
  refine wpOp_step ho fun K' hK' => ?_
  rw [if_pos hw]
  unfold Oper.wp
  rw [hr]
  exact hcl.mono fun e w' he => by
    obtain ⟨v, rfl, h1⟩ := hp e w' he
    exact hK' _ _ ⟨v, rfl, h1⟩
/-- one of the chain stores -/
theorem qc_store {KQ : Value → World → Prop} {ty : TypeId} {x y : Operand} (ho : ops[i]? = some o) (hw : Region.wanted o (yielded ops a.tmps) = true) (hop : o.op = .store ty x y) {g off : Nat} {cs : Array Value} {e : TypeId} (hc : Cs w g cs e) {vs : List Value} (hi : (P.info? ty).map (·.size) = some vs.length) (h1 : ∀ u ∈ vs, u.oneCell' = true)
    (hfit : off + vs.length ≤ cs.size) (hx : a.eval x = .pointer (some ⟨g, off, none⟩)) (hy : (a.eval y).cells = vs.toArray) (h : ∀ w', Cs w' g (lay cs off vs) e → Mod (fun k => k = g) w w' → KQ undef w') : wpOp P ops Q i (fun a' w' => ∃ v, a' = a.put o.dst v ∧ KQ v w') a w :=
  qc_turn ho hw (ex_storeA hop hc hi h1 hfit hx hy) (h _ (setRow_Cs hc) setRow_Mod)
/-- one of the chain makes a new variable -/
theorem qc_alloc {KQ : Value → World → Prop} {ty : TypeId} (ho : ops[i]? = some o) (hw : Region.wanted o (yielded ops a.tmps) = true) (hop : o.op = .alloc ty) {z : List Value} (hz : (P.info? ty).bind (·.zero) = some (.agg z.toArray))
    (h : ∀ w', Cs w' w.heap.size z.toArray ty → Mod (fun _ => False) w w' → KQ (.pointer (some ⟨w.heap.size, 0, none⟩)) w') : wpOp P ops Q i (fun a' w' => ∃ v, a' = a.put o.dst v ∧ KQ v w') a w := by
  obtain ⟨info, hi, hz⟩ := (show ∃ info, P.info? ty = some info ∧ info.zero = some (.agg z.toArray) by
    cases hq : P.info? ty with
    | none => rw [hq] at hz; cases hz
    | some i => rw [hq] at hz; exact ⟨i, rfl, hz⟩)
  exact qc_run ho hw (ex_alloc hop hi hz) (h _ (Cs.new _ _ _) ((Mod.refl _ _).alloc _))
theorem Cs_newN (w : World) {k : Nat} (c : Array Value) (T : TypeId) (hk : w.heap.size = k) : Cs (w.alloc (.cells c T)) k c T := by subst hk; exact Cs.new _ _ _
/-- a literal's row is made -/
theorem ql_new {T8 : TypeId} {C : Array Value} (hB : B ≤ w.heap.size) (hZ : ∀ j, Z j → B ≤ j ∧ j < w.heap.size) : ql B T8 C Z t (.slice (some ⟨w.heap.size, 0, none⟩) C.size C.size) (w.alloc (.cells C T8)) :=
  ⟨_, rfl, hB, (fun h => Nat.lt_irrefl _ (hZ _ h).2), (0, 0), heap_alloc_new _ _⟩
/-- a literal's row is marked -/
theorem qe_mark {ts T8 : TypeId} {x : Operand} {C : Array Value} (hop : ops[i]? = some o) (hw : Region.wanted o (yielded ops a.tmps) = true) (ho : o.op = .convert ts ts x) (hu : P.underlying ts = some (.slice T8)) (he : P.underlying T8 = some (.int .u8))
    (hx : ql B T8 C Z t (a.eval x) w) (hv : ∀ v w', ql B T8 C Z t v w' → (l.getD i qa) Z t v w') : wpOp P ops Q i (QJ B l Z i o t a w) a w := by
  obtain ⟨g, hx, hB, hZ, m, hb⟩ := hx
  have hlt := (Array.getElem?_eq_some_iff.1 hb).1
  have hsh : w.shape? g = some (T8, C.size) := by unfold World.shape?; rw [hb]
  obtain ⟨m', hblk⟩ : ∃ m', (w.freeze ⟨g, C.size, none⟩ 1).heap[g]? = some (.cells C T8 m') := by
    unfold World.freeze
    rw [if_neg (by decide)]
    rw [Array.getElem?_modify, if_pos rfl, hb]
    exact ⟨_, rfl⟩
  refine qe_run hop hw (v := .slice (some ⟨g, 0, none⟩) C.size C.size) (w' := w.freeze ⟨g, C.size, none⟩ 1) ?_ ⟨rfl, rfl, rfl, by unfold World.freeze; rw [if_neg (by decide)]; simp, fun k hk => ?_⟩ (hv _ _ ⟨g, rfl, hB, hZ, m', hblk⟩)
  · unfold execOp
    simp [ho, hx, convert, run_underlying hu, run_underlying he, markStringish, hsh]
  · by_cases e : k = g
    · subst e
      exact Or.inr ⟨hB, hZ, C, T8, m, m', hb, hblk⟩
    · refine Or.inl ?_
      unfold World.freeze
      rw [if_neg (by decide)]
      rw [Array.getElem?_modify, if_neg (fun h => e h.symm)]
theorem and_val {A B' : Bool} {u : Value} (h : A = true → u = .bool B') : (if A = true then u else .bool false) = .bool (A && B') := by
  cases A with
  | true => simp [h rfl]
  | false => rfl
theorem or_val {A B' : Bool} {u : Value} (h : A = false → u = .bool B') : (if A = true then .bool true else u) = .bool (A || B') := by
  cases A with
  | true => rfl
  | false => simp [h rfl]
end
end Go.Gv
