/- Maps that a call holds: a block with entries, as a list of keys and values in the order in which they came. No program here. -/
import Derived.Test.YtknpapcfhnhheaaInv2
import Derived.Maps.Own
import Derived.DeepKeys4
set_option linter.unusedVariables false
namespace Go.Gv
open Go Go.RowKit
open Go.Maps (Keyed)

section
variable {κ ν : Type} [DecidableEq κ]
def mlook (l : List (κ × ν)) (a : κ) : Option ν := (l.find? (fun p => decide (p.1 = a))).map (·.2)
def mput : List (κ × ν) → κ → ν → List (κ × ν)
  | [], a, v => [(a, v)]
  | (x, y) :: l, a, v => if x = a then (a, v) :: l else (x, y) :: mput l a v
def mhas (l : List (κ × ν)) (a : κ) : Bool := (mlook l a).isSome
theorem mlook_nil (a : κ) : mlook ([] : List (κ × ν)) a = none := rfl
theorem mlook_cons (x : κ) (y : ν) (l : List (κ × ν)) (a : κ) : mlook ((x, y) :: l) a = if x = a then some y else mlook l a := by
  unfold mlook
  by_cases h : x = a <;> simp [h]
theorem mlook_put (l : List (κ × ν)) (a b : κ) (v : ν) : mlook (mput l a v) b = if a = b then some v else mlook l b := by
  induction l with
  | nil => simp [mput, mlook_cons, mlook_nil]
  | cons p l ih =>
    obtain ⟨x, y⟩ := p
    unfold mput
    by_cases hx : x = a
    · subst hx
      simp only [if_pos, mlook_cons]
      by_cases h : x = b <;> simp [h]
    · simp only [if_neg hx, mlook_cons, ih]
      by_cases h : x = b
      · subst h
        have : ¬ a = x := fun e => hx e.symm
        simp [this]
      · simp [h]
theorem mput_mem {l : List (κ × ν)} {a : κ} {v : ν} {p : κ × ν} (h : p ∈ mput l a v) : p ∈ l ∨ p = (a, v) := by
  induction l with
  | nil => simp only [mput, List.mem_singleton] at h; exact Or.inr h
  | cons q l ih =>
    obtain ⟨x, y⟩ := q
    unfold mput at h
    split at h
    · rcases List.mem_cons.1 h with h | h
      · exact Or.inr h
      · exact Or.inl (List.mem_cons_of_mem _ h)
    · rcases List.mem_cons.1 h with h | h
      · exact Or.inl (by rw [h]; exact List.mem_cons_self)
      · rcases ih h with h | h
        · exact Or.inl (List.mem_cons_of_mem _ h)
        · exact Or.inr h
theorem mput_none {l : List (κ × ν)} {a : κ} {v : ν} (h : ∀ p ∈ l, p.1 ≠ a) : mput l a v = l ++ [(a, v)] := by
  induction l with
  | nil => rfl
  | cons q l ih =>
    obtain ⟨x, y⟩ := q
    unfold mput
    rw [if_neg (h (x, y) (by simp)), ih (fun p hp => h p (List.mem_cons_of_mem _ hp))]
    rfl
theorem mput_at {l : List (κ × ν)} (hd : l.Pairwise (fun p q => p.1 ≠ q.1)) {a : κ} {v : ν} : ∀ {j : Nat} {p : κ × ν}, l[j]? = some p → p.1 = a → mput l a v = l.set j (a, v) := by
  induction l with
  | nil => intro j p h; simp at h
  | cons q l ih =>
    obtain ⟨x, y⟩ := q
    intro j p h hp
    unfold mput
    cases j with
    | zero => simp only [List.getElem?_cons_zero, Option.some.injEq] at h; subst h; rw [if_pos hp]; rfl
    | succ j =>
      simp only [List.getElem?_cons_succ] at h
      have hm := List.mem_of_getElem? h
      have hne : ¬ x = a := by have := (List.pairwise_cons.1 hd).1 p hm; rw [hp] at this; exact this
      rw [if_neg hne, ih (List.pairwise_cons.1 hd).2 h hp]
      rfl
theorem mlook_at {l : List (κ × ν)} (hd : l.Pairwise (fun p q => p.1 ≠ q.1)) {a : κ} : ∀ {j : Nat} {p : κ × ν}, l[j]? = some p → p.1 = a → mlook l a = some p.2 := by
  induction l with
  | nil => intro j p h; simp at h
  | cons q l ih =>
    obtain ⟨x, y⟩ := q
    intro j p h hp
    rw [mlook_cons]
    cases j with
    | zero => simp only [List.getElem?_cons_zero, Option.some.injEq] at h; subst h; rw [if_pos hp]
    | succ j =>
      simp only [List.getElem?_cons_succ] at h
      have hm := List.mem_of_getElem? h
      have hne : ¬ x = a := by have := (List.pairwise_cons.1 hd).1 p hm; rw [hp] at this; exact this
      rw [if_neg hne, ih (List.pairwise_cons.1 hd).2 h hp]
theorem mlook_none {l : List (κ × ν)} {a : κ} (h : ∀ p ∈ l, p.1 ≠ a) : mlook l a = none := by
  unfold mlook
  rw [List.find?_eq_none.2 (fun p hp => by simpa using h p hp)]
  rfl
theorem mput_apart {l : List (κ × ν)} (hd : l.Pairwise (fun p q => p.1 ≠ q.1)) (a : κ) (v : ν) : (mput l a v).Pairwise (fun p q => p.1 ≠ q.1) := by
  induction l with
  | nil => simp [mput]
  | cons q l ih =>
    obtain ⟨x, y⟩ := q
    have h := List.pairwise_cons.1 hd
    unfold mput
    split
    · rename_i e
      exact List.pairwise_cons.2 ⟨fun p hp => by have := h.1 p hp; rw [e] at this; exact this, h.2⟩
    · rename_i e
      refine List.pairwise_cons.2 ⟨fun p hp => ?_, ih h.2⟩
      rcases mput_mem hp with hp | hp
      · exact h.1 p hp
      · rw [hp]; exact e
theorem mput_len (l : List (κ × ν)) (a : κ) (v : ν) : (mput l a v).length = if mhas l a then l.length else l.length + 1 := by
  induction l with
  | nil => rfl
  | cons q l ih =>
    obtain ⟨x, y⟩ := q
    unfold mput mhas
    rw [mlook_cons]
    by_cases h : x = a
    · simp [h]
    · simp only [if_neg h, List.length_cons, ih]
      unfold mhas
      cases (mlook l a).isSome <;> simp

/-- what stands in a map: keys by `enc`, values by `val` -/
def MapIs (w : World) (b : Nat) (enc : κ → Value) (val : ν → Value) (ok : κ → Prop) (l : List (κ × ν)) : Prop :=
  (∃ es clock, w.heap[b]? = some (.map es clock) ∧ es.toList.map (fun e => (e.key, e.val)) = l.map (fun p => (enc p.1, val p.2))) ∧ (∀ p ∈ l, ok p.1) ∧ l.Pairwise (fun p q => p.1 ≠ q.1)

/-- keys of type k -/
structure KeyEnc (P : Program) (k : TypeId) (enc : κ → Value) (ok : κ → Prop) : Prop where
  law : Keyed P k
  key : ∀ a, ok a → ∃ l, keyOf P k (enc a) = some l
  inj : ∀ a b, ok a → ok b → enc a = enc b → a = b

variable {w w' : World} {b : Nat} {enc : κ → Value} {val : ν → Value} {ok : κ → Prop} {l : List (κ × ν)} {P : Program} {k e t : TypeId}
omit [DecidableEq κ] in
theorem MapIs.lt (h : MapIs w b enc val ok l) : b < w.heap.size := by
  obtain ⟨⟨es, clock, hb, -⟩, -, -⟩ := h
  exact (Array.getElem?_eq_some_iff.1 hb).1
omit [DecidableEq κ] in
theorem MapIs.mod {S : Nat → Prop} (h : MapIs w b enc val ok l) (hm : Mod S w w') (hn : ¬ S b) : MapIs w' b enc val ok l := by
  obtain ⟨⟨es, clock, hb, he⟩, h2, h3⟩ := h
  exact ⟨⟨es, clock, hm.obj hb hn, he⟩, h2, h3⟩
omit [DecidableEq κ] in
theorem MapIs.made (w : World) (enc : κ → Value) (val : ν → Value) (ok : κ → Prop) : MapIs (w.alloc (.map #[] 0)) w.heap.size enc val ok [] :=
  ⟨⟨#[], 0, heap_alloc_new w _, rfl⟩, by simp, List.Pairwise.nil⟩
omit [DecidableEq κ] in
theorem MapIs.found (h : MapIs w b enc val ok l) (K : KeyEnc P k enc ok) {es : Array MapEntry} {clock : Nat} (hb : w.heap[b]? = some (.map es clock)) (he : es.toList.map (fun e => (e.key, e.val)) = l.map (fun p => (enc p.1, val p.2))) (a : κ) (ha : ok a) :
    ((Instr.findKey k (enc a) es.toList).run P w = .ok none w ∧ ∀ p ∈ l, p.1 ≠ a) ∨
    ∃ j p, (Instr.findKey k (enc a) es.toList).run P w = .ok (some (j, val p.2)) w ∧ l[j]? = some p ∧ p.1 = a ∧ (es[j]?).map (·.key) = some (enc a) := by
  obtain ⟨lk, hk⟩ := K.key a ha
  have hall : ∀ e ∈ es.toList, ∃ l, keyOf P k e.key = some l := by
    intro e hm
    have : (e.key, e.val) ∈ es.toList.map (fun e => (e.key, e.val)) := List.mem_map.2 ⟨e, hm, rfl⟩
    rw [he] at this
    obtain ⟨p, hp, hpe⟩ := List.mem_map.1 this
    have := K.key p.1 (h.2.1 p hp)
    rw [show e.key = enc p.1 from (congrArg Prod.fst hpe).symm]
    exact this
  rcases K.law.find w hk es.toList hall with ⟨h1, h2⟩ | ⟨j, e0, h1, h2, h3⟩
  · refine Or.inl ⟨h1, fun p hp e => ?_⟩
    have : (enc p.1, val p.2) ∈ l.map (fun p => (enc p.1, val p.2)) := List.mem_map.2 ⟨p, hp, rfl⟩
    rw [← he] at this
    obtain ⟨x, hx, hxe⟩ := List.mem_map.1 this
    refine h2 x hx ?_
    rw [show x.key = enc p.1 from congrArg Prod.fst hxe, e]
  · have hj : (es.toList.map (fun e => (e.key, e.val)))[j]? = some (e0.key, e0.val) := by rw [List.getElem?_map, h2]; rfl
    rw [he, List.getElem?_map] at hj
    cases hp : l[j]? with
    | none => rw [hp] at hj; cases hj
    | some p =>
      rw [hp] at hj
      have e1 : (enc p.1, val p.2) = (e0.key, e0.val) := Option.some.inj hj
      refine Or.inr ⟨j, p, ?_, hp, ?_, ?_⟩
      · rw [h1, show e0.val = val p.2 from (congrArg Prod.snd e1).symm]
      · exact K.inj _ _ (h.2.1 p (List.mem_of_getElem? hp)) ha ((congrArg Prod.fst e1).trans h3)
      · rw [← Array.getElem?_toList, h2]; exact congrArg some h3
theorem MapIs.lookup (h : MapIs w b enc val ok l) (K : KeyEnc P k enc ok) (ht : P.underlying t = some (.map k e)) {z : Value} (hz : (zeroValue e).run P w = .ok z w) (a : κ) (ha : ok a) (c : Bool) :
    (Instr.lookup t (.map (some b)) (enc a) c).run P w = .ok (if c then .tuple #[((mlook l a).map val).getD z, .bool (mhas l a)] else ((mlook l a).map val).getD z) w := by
  obtain ⟨⟨es, clock, hb, he⟩, h2, h3⟩ := h
  obtain ⟨lk, hk⟩ := K.key a ha
  rcases MapIs.found ⟨⟨es, clock, hb, he⟩, h2, h3⟩ K hb he a ha with ⟨f1, f2⟩ | ⟨j, p, f1, f2, f3, f4⟩
  · have e1 := mlook_none f2
    simp [Instr.lookup, run_underlying ht, MapKept.run_getObj_map hb, K.law.check w _ hk, f1, hz, Result.andThen, mhas, e1]
  · have e1 := mlook_at h3 f2 f3
    simp [Instr.lookup, run_underlying ht, MapKept.run_getObj_map hb, K.law.check w _ hk, f1, Result.andThen, mhas, e1]
theorem MapIs.update (h : MapIs w b enc val ok l) (K : KeyEnc P k enc ok) (ht : P.underlying t = some (.map k e)) (a : κ) (ha : ok a) (v : ν) :
    ∃ w', (Instr.mapUpdate t (.map (some b)) (enc a) (val v)).run P w = .ok () w' ∧ MapIs w' b enc val ok (mput l a v) ∧ Mod (fun i => i = b) w w' := by
  obtain ⟨⟨es, clock, hb, he⟩, h2, h3⟩ := h
  obtain ⟨lk, hk⟩ := K.key a ha
  have hok : ∀ p ∈ mput l a v, ok p.1 := by
    intro p hp
    rcases mput_mem hp with hp | hp
    · exact h2 p hp
    · rw [hp]; exact ha
  have hset : ∀ o : Obj, Mod (fun i => i = b) w { w with heap := w.heap.setIfInBounds b o } := fun o =>
    ⟨rfl, rfl, rfl, by simp, fun i hi hn => by simp [show ¬ b = i from fun e => hn e.symm]⟩
  have hlt := (Array.getElem?_eq_some_iff.1 hb).1
  rcases MapIs.found ⟨⟨es, clock, hb, he⟩, h2, h3⟩ K hb he a ha with ⟨f1, f2⟩ | ⟨j, p, f1, f2, f3, f4⟩
  · refine ⟨{ w with heap := w.heap.setIfInBounds b (.map (es.push ⟨enc a, val v, clock⟩) (clock + 1)) }, ?_, ⟨⟨es.push ⟨enc a, val v, clock⟩, clock + 1, by simp [hlt], ?_⟩, hok, mput_apart h3 a v⟩, hset _⟩
    · simp [Instr.mapUpdate, run_underlying ht, MapKept.run_getObj_map hb, K.law.check w false hk, f1, MapKept.run_setObj_map _ hb, Result.andThen]
    · rw [mput_none f2]
      simp [he]
  · cases hj : es[j]? with
    | none => rw [hj] at f4; cases f4
    | some e0 =>
      rw [hj] at f4
      have hek : e0.key = enc a := Option.some.inj f4
      refine ⟨{ w with heap := w.heap.setIfInBounds b (.map (es.modify j (fun e' => { e' with key := enc a, val := val v })) clock) }, ?_, ⟨⟨es.modify j (fun e' => { e' with key := enc a, val := val v }), clock, by simp [hlt], ?_⟩, hok, mput_apart h3 a v⟩, hset _⟩
      · simp [Instr.mapUpdate, run_underlying ht, MapKept.run_getObj_map hb, K.law.check w false hk, f1, hj, hek, K.law.stays w hk, MapKept.run_setObj_map _ hb, Result.andThen]
      · rw [mput_at h3 f2 f3, List.map_set, ← he, Array.toList_modify]
        have hj2 : es.toList[j]? = some e0 := by rw [Array.getElem?_toList]; exact hj
        rw [Go.ChangeMaps.modify_eq_set _ _ _ _ hj2, List.map_set]
omit [DecidableEq κ] in
theorem MapIs.len (h : MapIs w b enc val ok l) (ht : P.underlying t = some (.map k e)) (ty : TypeId) : (Builtin.len_ #[t] ty #[.map (some b)]).run P w = .ok (.int .i64 l.length) w := by
  obtain ⟨⟨es, clock, hb, he⟩, -, -⟩ := h
  have : es.size = l.length := by have := congrArg List.length he; simpa using this
  simp [Builtin.len_, run_underlying ht, MapKept.run_getObj_map hb, this, goInt]

omit [DecidableEq κ] in
theorem run_makeMap (t : TypeId) (w : World) : (Instr.makeMap t none).run P w = .ok (.map (some w.heap.size)) (w.alloc (.map #[] 0)) := by
  simp [Instr.makeMap]
omit [DecidableEq κ] in
theorem wpList_makeMap {ops : Array Oper} {rest : List Oper} {o : Oper} {a : Act} {Q : Exit → Act → World → Prop}
    (hg : o.guard = none) (t : TypeId) (hop : o.op = Op.makeMap t none) (hK : wpList P ops Q rest (a.put o.dst (.map (some w.heap.size))) (w.alloc (.map #[] 0))) : wpList P ops Q (o :: rest) a w := by
  refine wpList_plain hg fun K' hK' => ?_
  have hr := run_makeMap (P := P) t w
  unfold Oper.wp
  simp only [execOp, hop, Option.map_none, Sem.run_bind, hr, Result.andThen_ok, Sem.run_pure]
  exact hK' _ _ hK
theorem wpList_lookupM {ops : Array Oper} {rest : List Oper} {o : Oper} {a : Act} {Q : Exit → Act → World → Prop}
    (hg : o.guard = none) (m x : Operand) (t : TypeId) (hop : o.op = Op.lookup t m x false) (k e : TypeId) (ht : P.underlying t = some (.map k e)) (K : KeyEnc P k enc ok) (h : MapIs w b enc val ok l) {z : Value} (hz : (zeroValue e).run P w = .ok z w) (y : κ) (hy : ok y)
    (hm : a.eval m = .map (some b)) (hx : a.eval x = enc y) (hK : wpList P ops Q rest (a.put o.dst (((mlook l y).map val).getD z)) w) : wpList P ops Q (o :: rest) a w := by
  refine wpList_plain hg fun K' hK' => ?_
  have hr := h.lookup K ht hz y hy false
  unfold Oper.wp
  simp only [execOp, hop, hm, hx, Sem.run_bind, hr, Result.andThen_ok, Sem.run_pure]
  exact hK' _ _ hK
theorem wpList_updateM {ops : Array Oper} {rest : List Oper} {o : Oper} {a : Act} {Q : Exit → Act → World → Prop}
    (hg : o.guard = none) (m x u : Operand) (t : TypeId) (hop : o.op = Op.mapUpdate t m x u) (k e : TypeId) (ht : P.underlying t = some (.map k e)) (K : KeyEnc P k enc ok) (h : MapIs w b enc val ok l) (y : κ) (hy : ok y) (v : ν)
    (hm : a.eval m = .map (some b)) (hx : a.eval x = enc y) (hu : a.eval u = val v) (hK : ∀ w', MapIs w' b enc val ok (mput l y v) → Mod (fun i => i = b) w w' → wpList P ops Q rest (a.put o.dst undef) w') : wpList P ops Q (o :: rest) a w := by
  refine wpList_plain hg fun K' hK' => ?_
  obtain ⟨w', hr, h1, h2⟩ := h.update K ht y hy v
  unfold Oper.wp
  simp only [execOp, hop, hm, hx, hu, Sem.run_bind, hr, Result.andThen_ok, Sem.run_pure]
  exact hK' _ _ (hK w' h1 h2)
end
end Go.Gv
