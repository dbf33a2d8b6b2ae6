/- A region that draws its order, by an invariant: each operation is looked at once, whatever was done before it. No program here. -/
import Derived.Test.YtknpapcfhnhheaaMem
import Derived.Deep.RegionLaw
set_option linter.unusedVariables false
namespace Go.Gv
open Go Go.RowKit

def putAll (a : Act) : List Nat → List Value → Act
  | s :: ss, v :: vs => putAll (a.put (some s) v) ss vs
  | _, _ => a

theorem put_tmps (a : Act) (s : Nat) (v : Value) : (a.put (some s) v) = { a with tmps := a.tmps.setIfInBounds s v } := rfl
theorem put_comm (a : Act) {s t : Nat} (h : s ≠ t) (u v : Value) : (a.put (some s) u).put (some t) v = (a.put (some t) v).put (some s) u := by
  simp only [put_tmps, Act.mk.injEq, and_true]
  exact Array.setIfInBounds_comm _ _ h
theorem put_put (a : Act) (s : Nat) (u v : Value) : (a.put (some s) u).put (some s) v = a.put (some s) v := by
  simp [put_tmps]
theorem putAll_put_out : ∀ (ss : List Nat) (vs : List Value) (a : Act) (t : Nat) (v : Value), t ∉ ss → (putAll a ss vs).put (some t) v = putAll (a.put (some t) v) ss vs
  | [], _, _, _, _, _ => rfl
  | _ :: _, [], _, _, _, _ => rfl
  | s :: ss, u :: vs, a, t, v, h => by
    simp only [putAll]
    rw [putAll_put_out ss vs _ t v (fun h' => h (List.mem_cons_of_mem _ h')), put_comm a (fun e => h (by rw [e]; exact List.mem_cons_self))]
theorem putAll_put : ∀ (ss : List Nat) (vs : List Value) (a : Act) (p : Nat) (s : Nat) (v : Value), ss.Nodup → vs.length = ss.length → ss[p]? = some s → (putAll a ss vs).put (some s) v = putAll a ss (vs.set p v)
  | [], _, _, _, _, _, _, _, h => by simp at h
  | _ :: _, [], _, _, _, _, _, h, _ => by simp at h
  | s :: ss, u :: vs, a, 0, t, v, hn, hl, h => by
    simp at h
    subst h
    simp only [putAll, List.set_cons_zero]
    rw [putAll_put_out ss vs _ s v (List.nodup_cons.1 hn).1, put_put]
  | s :: ss, u :: vs, a, p + 1, t, v, hn, hl, h => by
    simp only [putAll, List.set_cons_succ]
    exact putAll_put ss vs _ p t v (List.nodup_cons.1 hn).2 (by simpa using hl) (by simpa using h)
theorem putAll_size : ∀ (ss : List Nat) (vs : List Value) (a : Act), (putAll a ss vs).tmps.size = a.tmps.size
  | [], _, _ => rfl
  | _ :: _, [], _ => rfl
  | s :: ss, u :: vs, a => by simp only [putAll]; rw [putAll_size]; simp [put_tmps]
theorem putAll_out : ∀ (ss : List Nat) (vs : List Value) (a : Act) (t : Nat), t ∉ ss → (putAll a ss vs).tmps[t]? = a.tmps[t]?
  | [], _, _, _, _ => rfl
  | _ :: _, [], _, _, _ => rfl
  | s :: ss, u :: vs, a, t, h => by
    simp only [putAll]
    rw [putAll_out ss vs _ t (fun h' => h (List.mem_cons_of_mem _ h'))]
    simp only [put_tmps]
    rw [Array.getElem?_setIfInBounds_ne (fun e => h (by rw [e]; exact List.mem_cons_self))]
theorem putAll_in : ∀ (ss : List Nat) (vs : List Value) (a : Act) (p s : Nat), ss.Nodup → vs.length = ss.length → ss[p]? = some s → s < a.tmps.size → (putAll a ss vs).tmps[s]? = vs[p]?
  | [], _, _, _, _, _, _, h, _ => by simp at h
  | _ :: _, [], _, _, _, _, h, _, _ => by simp at h
  | s :: ss, u :: vs, a, 0, t, hn, hl, h, hs => by
    simp at h
    subst h
    simp only [putAll]
    rw [putAll_out ss vs _ s (List.nodup_cons.1 hn).1]
    simp [put_tmps, hs]
  | s :: ss, u :: vs, a, p + 1, t, hn, hl, h, hs => by
    simp only [putAll]
    rw [putAll_in ss vs _ p t (List.nodup_cons.1 hn).2 (by simpa using hl) (by simpa using h) (by simpa [put_tmps] using hs)]
    rfl
theorem eval_out (a : Act) (ss : List Nat) (vs : List Value) (t : Nat) (h : t ∉ ss) : (putAll a ss vs).eval (.tmp t) = a.eval (.tmp t) := by
  simp only [Act.eval, Array.getD_eq_getD_getElem?]
  rw [putAll_out ss vs a t h]
theorem eval_in (a : Act) (ss : List Nat) (vs : List Value) (p s : Nat) (v : Value) (hn : ss.Nodup) (hl : vs.length = ss.length) (h : ss[p]? = some s) (hs : s < a.tmps.size) (hv : vs[p]? = some v) : (putAll a ss vs).eval (.tmp s) = v := by
  simp only [Act.eval, Array.getD_eq_getD_getElem?]
  rw [putAll_in ss vs a p s hn hl h hs, hv]
  rfl
theorem putAll_self : ∀ (ss : List Nat) (a : Act), putAll a ss (ss.map fun s => a.tmps.getD s undef) = a
  | [], _ => rfl
  | s :: ss, a => by
    have e : a.put (some s) (a.tmps.getD s undef) = a := by
      obtain ⟨t, d⟩ := a
      simp only [put_tmps, Act.mk.injEq, and_true]
      apply Array.ext
      · simp
      · intro i h1 h2
        rw [Array.getElem_setIfInBounds]
        split
        · rename_i h; subst h; simp [Array.getD, h2]
        · rfl
    simp only [List.map_cons, putAll]
    rw [e]
    exact putAll_self ss a

section
variable {P : Program} {ops : Array Oper} {Q : Exit → Act → World → Prop}
def upd (L : Nat → Bool) (i : Nat) : Nat → Bool := fun j => if j = i then true else L j

theorem wpAny_inv (hac : ∀ i o, ops[i]? = some o → ∀ e ∈ o.after, Region.binds .any e = true → e.on < i) (I : (Nat → Bool) → Act → World → Prop)
    (step : ∀ i o, ops[i]? = some o → ∀ L a w, L i = false → (∀ e ∈ o.after, Region.binds .any e = true → L e.on = true) → I L a w → wpOp P ops Q i (fun a' w' => I (upd L i) a' w') a w)
    (fin : ∀ L a w, (∀ i < ops.size, L i = true) → I L a w → Q .normal a w) :
    ∀ (fuel : Nat) (listed : Array Bool) (a : Act) (w : World), listed.size = ops.size → ((List.range ops.size).filter fun i => !listed.getD i true).length ≤ fuel → I (fun i => listed.getD i false) a w → wpAny P .any ops Q fuel listed a w := by
  have hempty : ∀ listed : Array Bool, listed.size = ops.size → Region.ready .any ops listed = [] → ∀ i < ops.size, listed.getD i false = true := by
    intro listed hs hr i
    induction i using Nat.strongRecOn with
    | ind i ih =>
      intro hi
      cases hl : listed.getD i false with
      | true => rfl
      | false =>
        exfalso
        have : i ∈ Region.ready .any ops listed := by
          unfold Region.ready
          rw [List.mem_filter]
          refine ⟨List.mem_range.2 hi, ?_⟩
          have hl' : listed.getD i true = false := by
            simp [Array.getD, show i < listed.size by omega] at hl ⊢
            exact hl
          rw [hl', Array.getElem?_eq_getElem hi]
          simp only [Bool.not_false, Bool.true_and, Option.map_some, Option.getD_some, Array.all_eq_true_iff_forall_mem, Bool.or_eq_true, Bool.not_eq_true']
          intro e he
          cases hb : Region.binds .any e with
          | false => exact .inl rfl
          | true =>
            have hlt := hac i _ (Array.getElem?_eq_getElem hi) e he hb
            exact .inr (ih e.on hlt (by omega))
        rw [hr] at this
        cases this
  intro fuel
  induction fuel with
  | zero =>
    intro listed a w hs hn hI
    have hr : Region.ready .any ops listed = [] := by
      have h0 : ((List.range ops.size).filter fun i => !listed.getD i true) = [] := List.eq_nil_of_length_eq_zero (by omega)
      unfold Region.ready
      rw [List.filter_eq_nil_iff] at h0 ⊢
      intro i hi h
      simp only [Bool.and_eq_true] at h
      exact h0 i hi h.1
    exact ⟨hr, fin _ a w (hempty listed hs hr) hI⟩
  | succ fuel ih =>
    intro listed a w hs hn hI
    refine ⟨fun hr => fin _ a w (hempty listed hs hr) hI, fun i hi => ?_⟩
    unfold Region.ready at hi
    rw [List.mem_filter] at hi
    obtain ⟨hi, h⟩ := hi
    rw [List.mem_range] at hi
    simp only [Bool.and_eq_true, Bool.not_eq_true'] at h
    rw [Array.getElem?_eq_getElem hi] at h
    simp only [Option.map_some, Option.getD_some, Array.all_eq_true_iff_forall_mem, Bool.or_eq_true, Bool.not_eq_true'] at h
    obtain ⟨hl, hd⟩ := h
    have hlf : listed.getD i false = false := by
      simp [Array.getD, show i < listed.size by omega] at hl ⊢
      exact hl
    refine wpOp_mono ?_ (step i _ (Array.getElem?_eq_getElem hi) _ a w hlf (fun e he hb => ?_) hI)
    · intro a' w' hI'
      refine ih _ a' w' (by simpa using hs) ?_ ?_
      · have hlt : ((List.range ops.size).filter fun j => !(listed.setIfInBounds i true).getD j true).length < ((List.range ops.size).filter fun j => !listed.getD j true).length := by
          have hsub : ((List.range ops.size).filter fun j => !(listed.setIfInBounds i true).getD j true) = ((List.range ops.size).filter fun j => !listed.getD j true).filter (fun j => j != i) := by
            rw [List.filter_filter]
            apply List.filter_congr
            intro j hj
            have hj' := List.mem_range.1 hj
            by_cases e : j = i
            · subst e; simp [Array.getD, show j < listed.size by omega]
            · simp [Array.getD, show j < listed.size by omega, Ne.symm e, e]
          rw [hsub]
          have hmem : i ∈ ((List.range ops.size).filter fun j => !listed.getD j true) := List.mem_filter.2 ⟨List.mem_range.2 hi, by rw [hl]; rfl⟩
          exact List.length_filter_lt_length_iff_exists.2 ⟨i, hmem, by simp⟩
        omega
      · have e : upd (fun j => listed.getD j false) i = fun j => (listed.setIfInBounds i true).getD j false := by
          funext j
          unfold upd
          by_cases e : j = i
          · subst e; simp [Array.getD, show j < listed.size by omega]
          · simp only [if_neg e]
            by_cases hj : j < listed.size
            · simp [Array.getD, hj, Ne.symm e]
            · simp [Array.getD, hj]
        rw [← e]
        exact hI'
    · rcases hd e he with h | h
      · rw [hb] at h; cases h
      · exact h

theorem wp_region_inv {id : Nat} {a0 : Act} {w0 : World} (hm : P.follows .mixedOrders = true) (hac : ∀ i o, ops[i]? = some o → ∀ e ∈ o.after, Region.binds .any e = true → e.on < i) (ss : List Nat) (I : (Nat → Bool) → List Value → World → Prop)
    (init : I (fun _ => false) (ss.map fun s => a0.tmps.getD s undef) w0.drew)
    (step : ∀ i o, ops[i]? = some o → ∀ L vs w, L i = false → (∀ e ∈ o.after, Region.binds .any e = true → L e.on = true) → vs.length = ss.length → I L vs w →
      wpOp P ops Q i (fun a' w' => ∃ vs', a' = putAll a0 ss vs' ∧ vs'.length = ss.length ∧ I (upd L i) vs' w') (putAll a0 ss vs) w)
    (fin : ∀ L vs w, (∀ i < ops.size, L i = true) → vs.length = ss.length → I L vs w → Q .normal (putAll a0 ss vs) w) : (Code.region id ops true).wp P Q a0 w0 := by
  refine wp_region_any hm ?_
  refine wpAny_inv hac (fun L a w => ∃ vs, a = putAll a0 ss vs ∧ vs.length = ss.length ∧ I L vs w) ?_ ?_ _ _ _ _ (by simp) ?_ ⟨_, (putAll_self ss a0).symm, by simp, ?_⟩
  · rintro i o ho L a w hL hd ⟨vs, rfl, hl, hI⟩
    exact step i o ho L vs w hL hd hl hI
  · rintro L a w hL ⟨vs, rfl, hl, hI⟩
    exact fin L vs w hL hl hI
  · exact Nat.le_trans (List.length_filter_le _ _) (by simp)
  · have e : (fun i => (Array.replicate ops.size false).getD i false) = fun _ => false := by
      funext i
      by_cases h : i < ops.size <;> simp [Array.getD, h]
    rw [e]
    exact init

/-- each operation with its place -/
def Each (S : Nat → Oper → Prop) : Nat → List Oper → Prop
  | _, [] => True
  | i, o :: r => S i o ∧ Each S (i + 1) r
theorem Each.get {S : Nat → Oper → Prop} : ∀ (l : List Oper) (k : Nat), Each S k l → ∀ i o, l[i]? = some o → S (k + i) o
  | [], _, _, _, _, h => by simp at h
  | o :: r, k, hE, 0, o', h => by simp at h; subst h; exact hE.1
  | o :: r, k, hE, i + 1, o', h => by
    have := Each.get r (k + 1) hE.2 i o' (by simpa using h)
    rwa [Nat.add_right_comm] at this
def backward (ops : Array Oper) : Bool := (List.range ops.size).all fun i => ((ops[i]?).map fun o => o.after.all fun e => !Region.binds .any e || decide (e.on < i)).getD true
theorem backward_spec (h : backward ops = true) : ∀ i o, ops[i]? = some o → ∀ e ∈ o.after, Region.binds .any e = true → e.on < i := by
  intro i o ho e he hb
  have hi : i < ops.size := (Array.getElem?_eq_some_iff.1 ho).1
  have := List.all_eq_true.1 h i (List.mem_range.2 hi)
  rw [ho] at this
  simp only [Option.map_some, Option.getD_some, Array.all_eq_true_iff_forall_mem] at this
  have := this e he
  rw [hb] at this
  simpa using this
/-- what is to be shown of an operation -/
def StepInv (P : Program) (ops : Array Oper) (Q : Exit → Act → World → Prop) (a0 : Act) (ss : List Nat) (I : (Nat → Bool) → List Value → World → Prop) (i : Nat) (o : Oper) : Prop :=
  ∀ L vs w, L i = false → (∀ e ∈ o.after, Region.binds .any e = true → L e.on = true) → vs.length = ss.length → I L vs w →
    wpOp P ops Q i (fun a' w' => ∃ vs', a' = putAll a0 ss vs' ∧ vs'.length = ss.length ∧ I (upd L i) vs' w') (putAll a0 ss vs) w
theorem wp_region_each {id : Nat} {a0 : Act} {w0 : World} (hm : P.follows .mixedOrders = true) (hac : backward ops = true) (ss : List Nat) (I : (Nat → Bool) → List Value → World → Prop)
    (init : I (fun _ => false) (ss.map fun s => a0.tmps.getD s undef) w0.drew)
    (step : Each (StepInv P ops Q a0 ss I) 0 ops.toList)
    (fin : ∀ L vs w, (∀ i < ops.size, L i = true) → vs.length = ss.length → I L vs w → Q .normal (putAll a0 ss vs) w) : (Code.region id ops true).wp P Q a0 w0 :=
  wp_region_inv hm (backward_spec hac) ss I init (fun i o ho L vs w h1 h2 h3 h4 => by
    have := Each.get _ 0 step i o (by simpa using ho)
    rw [Nat.zero_add] at this
    exact this L vs w h1 h2 h3 h4) fin

theorem wpOps_inv (hac : ∀ i o, ops[i]? = some o → ∀ e ∈ o.after, Region.binds .any e = true → e.on < i) (I : (Nat → Bool) → Act → World → Prop)
    (step : ∀ i o, ops[i]? = some o → ∀ L a w, L i = false → (∀ e ∈ o.after, Region.binds .any e = true → L e.on = true) → I L a w → wpOp P ops Q i (fun a' w' => I (upd L i) a' w') a w)
    (fin : ∀ L a w, (∀ i < ops.size, L i = true) → I L a w → Q .normal a w) :
    ∀ (m k : Nat) (a : Act) (w : World), k + m = ops.size → I (fun i => decide (i < k)) a w → wpOps P ops Q (List.range' k m) a w
  | 0, k, a, w, hk, hI => by
    simp only [List.range'_zero, wpOps]
    exact fin _ a w (fun i hi => by simp; omega) hI
  | m + 1, k, a, w, hk, hI => by
    rw [List.range'_succ, wpOps_cons]
    have hkl : k < ops.size := by omega
    refine wpOp_mono ?_ (step k _ (Array.getElem?_eq_getElem hkl) _ a w (by simp) (fun e he hb => by simpa using hac k _ (Array.getElem?_eq_getElem hkl) e he hb) hI)
    intro a' w' hI'
    refine wpOps_inv hac I step fin m (k + 1) a' w' (by omega) ?_
    have e : upd (fun i => decide (i < k)) k = fun i => decide (i < k + 1) := by
      funext i
      unfold upd
      by_cases h : i = k
      · subst h; simp
      · simp only [if_neg h, decide_eq_decide]; omega
    rw [← e]
    exact hI'
/-- both kinds of regions -/
theorem wp_region_both {d : Bool} {id : Nat} {a0 : Act} {w0 : World} (hm : P.follows .mixedOrders = true) (hac : ∀ i o, ops[i]? = some o → ∀ e ∈ o.after, Region.binds .any e = true → e.on < i) (ss : List Nat) (I : (Nat → Bool) → List Value → World → Prop)
    (init : I (fun _ => false) (ss.map fun s => a0.tmps.getD s undef) w0) (initd : I (fun _ => false) (ss.map fun s => a0.tmps.getD s undef) w0.drew)
    (step : ∀ i o, ops[i]? = some o → ∀ L vs w, L i = false → (∀ e ∈ o.after, Region.binds .any e = true → L e.on = true) → vs.length = ss.length → I L vs w →
      wpOp P ops Q i (fun a' w' => ∃ vs', a' = putAll a0 ss vs' ∧ vs'.length = ss.length ∧ I (upd L i) vs' w') (putAll a0 ss vs) w)
    (fin : ∀ L vs w, (∀ i < ops.size, L i = true) → vs.length = ss.length → I L vs w → Q .normal (putAll a0 ss vs) w) : (Code.region id ops d).wp P Q a0 w0 := by
  cases d with
  | true => exact wp_region_inv hm hac ss I initd step fin
  | false =>
    refine wp_region ?_
    rw [List.range_eq_range']
    refine wpOps_inv hac (fun L a w => ∃ vs, a = putAll a0 ss vs ∧ vs.length = ss.length ∧ I L vs w) ?_ ?_ ops.size 0 a0 w0 (by omega) ⟨_, (putAll_self ss a0).symm, by simp, by simpa using init⟩
    · rintro i o ho L a w hL hd ⟨vs, rfl, hl, hI⟩
      exact step i o ho L vs w hL hd hl hI
    · rintro L a w hL ⟨vs, rfl, hl, hI⟩
      exact fin L vs w hL hl hI
end
end Go.Gv
