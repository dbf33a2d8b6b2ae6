/- A region of either kind in which some operations, one behind the other, turn the world: the others only read or make. No program here. -/
import Derived.Test.YtknpapcfhnhheaaVal
set_option linter.unusedVariables false
namespace Go.Gv
open Go Go.RowKit

section
variable {P : Program} {ops : Array Oper} {Q : Exit → Act → World → Prop}
def afterOf (ops : Array Oper) (i : Nat) : List Nat := match ops[i]? with
  | some o => (o.after.toList.filter fun e => Region.binds .any e).map (·.on)
  | none => []
def clo (ops : Array Oper) : Nat → List Nat → List Nat
  | 0, m => m
  | k + 1, m => clo ops k (if m.contains k then m ++ afterOf ops k else m)
def linked (ops : Array Oper) : List Nat → Bool
  | p :: q :: r => (clo ops ops.size (afterOf ops q)).contains p && linked ops (q :: r)
  | _ => true
def Down (ops : Array Oper) (L : Nat → Bool) : Prop := ∀ i, L i = true → ∀ x ∈ afterOf ops i, L x = true
theorem mem_afterOf {i x : Nat} : x ∈ afterOf ops i ↔ ∃ o, ops[i]? = some o ∧ ∃ e ∈ o.after, Region.binds .any e = true ∧ e.on = x := by
  unfold afterOf
  cases h : ops[i]? with
  | none => simp
  | some o => simp [and_assoc]
theorem clo_done {L : Nat → Bool} (hD : Down ops L) : ∀ (k : Nat) (m : List Nat), (∀ x ∈ m, L x = true) → ∀ x ∈ clo ops k m, L x = true
  | 0, m, h, x, hx => h x hx
  | k + 1, m, h, x, hx => by
    refine clo_done hD k _ (fun y hy => ?_) x hx
    split at hy
    · rename_i hk
      rcases List.mem_append.1 hy with hy | hy
      · exact h y hy
      · exact hD k (h k (by simpa using hk)) y hy
    · exact h y hy
theorem linked_prev {L : Nat → Bool} (hD : Down ops L) : ∀ (c : List Nat), linked ops c = true → ∀ k p q, c[k]? = some p → c[k + 1]? = some q → (∀ x ∈ afterOf ops q, L x = true) → L p = true
  | [], _, k, p, q, h, _, _ => by simp at h
  | [_], _, k, p, q, _, h, _ => by simp at h
  | a :: b :: r, hl, 0, p, q, h1, h2, h3 => by
    simp only [List.getElem?_cons_zero, Option.some.injEq, List.getElem?_cons_succ] at h1 h2
    subst h1; subst h2
    unfold linked at hl
    rw [Bool.and_eq_true] at hl
    exact clo_done hD _ _ h3 a (by simpa using hl.1)
  | a :: b :: r, hl, k + 1, p, q, h1, h2, h3 => by
    unfold linked at hl
    rw [Bool.and_eq_true] at hl
    exact linked_prev hD (b :: r) hl.2 k p q (by simpa using h1) (by simpa using h2) h3
/-- all ahead of k are done -/
theorem linked_all {L : Nat → Bool} (hD : Down ops L) {c : List Nat} (hl : linked ops c = true) : ∀ (k : Nat) (q : Nat), c[k]? = some q → (∀ x ∈ afterOf ops q, L x = true) → ∀ j p, j < k → c[j]? = some p → L p = true
  | 0, q, _, _, j, p, hj, _ => by omega
  | k + 1, q, hq, ha, j, p, hj, hp => by
    have hlt : k < c.length := by have := (List.getElem?_eq_some_iff.1 hq).1; omega
    have hk : c[k]? = some c[k] := List.getElem?_eq_getElem hlt
    have h1 := linked_prev hD c hl k _ q hk hq ha
    by_cases e : j = k
    · subst e; rw [hk] at hp; rw [← Option.some.inj hp]; exact h1
    · exact linked_all hD hl k _ hk (fun x hx => hD _ h1 x hx) j p (by omega) hp

def okSlots (ops : Array Oper) (n : Nat) (ss : List Nat) : Bool := ss.length == ops.size && (ops.toList.zip ss).all fun (o, s) => match o.dst with
  | some t => t == s && decide (s < n)
  | none => decide (n ≤ s)
theorem okSlots_at {n : Nat} {ss : List Nat} (h : okSlots ops n ss = true) {i : Nat} {o : Oper} (ho : ops[i]? = some o) : ∃ s, ss[i]? = some s ∧ ((o.dst = some s ∧ s < n) ∨ (o.dst = none ∧ n ≤ s)) := by
  unfold okSlots at h
  rw [Bool.and_eq_true] at h
  have hl : ss.length = ops.size := by simpa using h.1
  have hi : i < ops.size := (Array.getElem?_eq_some_iff.1 ho).1
  have hs : ss[i]? = some (ss[i]'(by omega)) := List.getElem?_eq_getElem (by omega)
  refine ⟨_, hs, ?_⟩
  have hm : (o, ss[i]'(by omega)) ∈ ops.toList.zip ss := by
    refine List.mem_of_getElem? (i := i) ?_
    rw [List.getElem?_zip_eq_some]
    exact ⟨by simpa using ho, hs⟩
  have := List.all_eq_true.1 h.2 _ hm
  dsimp only at this
  cases hd : o.dst with
  | none => rw [hd] at this; exact Or.inr ⟨rfl, by simpa using this⟩
  | some t =>
    rw [hd] at this
    simp only [Bool.and_eq_true, beq_iff_eq, decide_eq_true_eq] at this
    exact Or.inl ⟨by rw [this.1], this.2⟩
theorem put_far (a : Act) {s : Nat} (h : a.tmps.size ≤ s) (v : Value) : a.put (some s) v = a := by
  obtain ⟨t, d⟩ := a
  simp only [put_tmps, Act.mk.injEq, and_true]
  exact Array.setIfInBounds_eq_of_size_le h
def StableS (S : Nat → Prop) (p : Pred) : Prop := ∀ v w w', p v w → Mod S w w' → p v w'
theorem isv_stableS {S : Nat → Prop} {x : Value} : StableS S (isv x) := fun _ _ _ h _ => h
theorem anyv_stableS {S : Nat → Prop} : StableS S anyv := fun _ _ _ h _ => h
def AllStableS (S : Nat → Prop) : List Pred → Prop
  | [] => True
  | p :: r => StableS S p ∧ AllStableS S r
theorem AllStableS.get {S : Nat → Prop} : ∀ (l : List Pred), AllStableS S l → ∀ i, StableS S (l.getD i anyv)
  | [], _, _ => fun _ _ _ h _ => h
  | p :: r, h, 0 => h.1
  | p :: r, h, i + 1 => by simpa using AllStableS.get r h.2 i

/-- how an operation leaves things; those of the chain turn the state on -/
def JQ (S : Nat → Prop) (l : List Pred) (c : List Nat) (G : Nat → World → Prop) (i : Nat) (o : Oper) (a : Act) (w : World) : Act → World → Prop := fun a' w' => ∃ v, a' = a.put o.dst v ∧ Mod S w w' ∧ (l.getD i anyv) v w' ∧ (c.contains i = true → ∀ k, c[k]? = some i → G (k + 1) w') ∧ (c.contains i = false → ∀ k, G k w → G k w')
/-- what is to be shown of an operation -/
def StepJ (P : Program) (ops : Array Oper) (Q : Exit → Act → World → Prop) (a0 : Act) (w0 : World) (n : Nat) (ss : List Nat) (S : Nat → Prop) (l : List Pred) (c : List Nat) (G : Nat → World → Prop) (i : Nat) (o : Oper) : Prop :=
  ∀ a w, Mod S w0 w → (∀ t, t ∉ ss → a.eval (.tmp t) = a0.eval (.tmp t)) → (∀ s, s < n → s < a.tmps.size) →
    (∀ e ∈ o.after, Region.binds .any e = true → ∀ s, (ops[e.on]?).bind (·.dst) = some s → (l.getD e.on anyv) (a.eval (.tmp s)) w) → (∀ k, c[k]? = some i → G k w) →
    wpOp P ops Q i (JQ S l c G i o a w) a w

theorem wp_region_J {d : Bool} {id : Nat} {a0 : Act} {w0 : World} (n : Nat) (hn : a0.tmps.size = n) (hm : P.follows .mixedOrders = true) (hac : backward ops = true) (ss : List Nat) (hss : okSlots ops n ss = true) (hnd : ss.Nodup)
    (S : Nat → Prop) (l : List Pred) (stable : AllStableS S l) (c : List Nat) (hlk : linked ops c = true) (hcn : c.Nodup) (hcs : (c.all fun i => decide (i < ops.size)) = true) (G : Nat → World → Prop) (Gst : ∀ k w w', G k w → Mod (fun _ => False) w w' → G k w') (g0 : G 0 w0)
    (step : Each (StepJ P ops Q a0 w0 n ss S l c G) 0 ops.toList)
    (fin : ∀ vs w, vs.length = ss.length → Mod S w0 w → G c.length w → (∀ p v, vs[p]? = some v → (l.getD p anyv) v w) → Q .normal (putAll a0 ss vs) w) : (Code.region id ops d).wp P Q a0 w0 := by
  have hinj : ∀ (j k i : Nat), c[j]? = some i → c[k]? = some i → j = k := by
    intro j k i h1 h2
    exact (List.getElem?_inj (List.getElem?_eq_some_iff.1 h1).1 hcn).1 (h1.trans h2.symm)
  refine wp_region_both hm (backward_spec hac) ss (fun L vs w => Mod S w0 w ∧ (∀ p v, L p = true → vs[p]? = some v → (l.getD p anyv) v w) ∧ Down ops L ∧ ∃ k, k ≤ c.length ∧ (∀ j p, j < k → c[j]? = some p → L p = true) ∧ (∀ j p, k ≤ j → c[j]? = some p → L p = false) ∧ G k w)
    ⟨Mod.refl _ _, (fun p v h => by cases h), (fun i h => by cases h), 0, Nat.zero_le _, (fun j p h => by omega), fun _ _ _ _ => rfl, g0⟩
    ⟨(Mod.refl _ _).drew, (fun p v h => by cases h), (fun i h => by cases h), 0, Nat.zero_le _, (fun j p h => by omega), fun _ _ _ _ => rfl, Gst _ _ _ g0 (Mod.refl _ _).drew⟩ ?_ ?_
  · rintro i o ho L vs w hL hd hl ⟨hmod, hV, hD, k, hkl, hk1, hk2, hG⟩
    have hst := Each.get _ 0 step i o (by simpa using ho)
    rw [Nat.zero_add] at hst
    obtain ⟨s, hs, hds⟩ := okSlots_at hss ho
    have haf : ∀ x ∈ afterOf ops i, L x = true := by
      intro x hx
      obtain ⟨o', ho', e, he, hb, rfl⟩ := mem_afterOf.1 hx
      rw [ho] at ho'
      cases ho'
      exact hd e he hb
    have hDn : Down ops (upd L i) := by
      intro j hj x hx
      unfold upd at hj ⊢
      by_cases e : x = i
      · rw [if_pos e]
      · rw [if_neg e]
        by_cases e2 : j = i
        · subst e2; exact haf x hx
        · rw [if_neg e2] at hj; exact hD j hj x hx
    have hGk : ∀ k' : Nat, c[k']? = some i → k' = k := by
      intro k' hk'
      have hall := linked_all hD hlk k' i hk' haf
      rcases Nat.lt_trichotomy k' k with h | h | h
      · have := hk1 k' i h hk'; rw [hL] at this; cases this
      · exact h
      · have hlt : k < c.length := by have := (List.getElem?_eq_some_iff.1 hk').1; omega
        have := hall k c[k] h (List.getElem?_eq_getElem hlt)
        rw [hk2 k c[k] (Nat.le_refl _) (List.getElem?_eq_getElem hlt)] at this
        cases this
    refine wpOp_mono ?_ (hst (putAll a0 ss vs) w hmod (fun t ht => eval_out _ _ _ _ ht) (fun t ht => by rw [putAll_size, hn]; exact ht) (fun e he hb s' hs' => ?_) (fun k' hk' => by rw [hGk k' hk']; exact hG))
    · rintro a' w' ⟨v, rfl, hm', hv, hc1, hc2⟩
      have hlt : i < vs.length := by rw [hl]; exact (List.getElem?_eq_some_iff.1 hs).1
      refine ⟨vs.set i v, ?_, by simpa using hl, hmod.trans hm' (fun _ _ h => h), fun p u hp hu => ?_, hDn, ?_⟩
      · have e1 := putAll_put _ _ a0 i s v hnd hl hs
        rcases hds with ⟨h1, h2⟩ | ⟨h1, h2⟩
        · rw [h1]; exact e1
        · rw [h1, ← e1, put_far _ (by rw [putAll_size, hn]; exact h2)]; rfl
      · by_cases e : p = i
        · subst e
          rw [List.getElem?_set_self', List.getElem?_eq_getElem hlt] at hu
          simp at hu
          subst hu
          exact hv
        · rw [List.getElem?_set_ne (Ne.symm e)] at hu
          unfold upd at hp
          rw [if_neg e] at hp
          exact AllStableS.get l stable p _ _ _ (hV p u hp hu) hm'
      · by_cases hci : c.contains i = true
        · obtain ⟨k', hk'⟩ := List.getElem?_of_mem (show i ∈ c by simpa using hci)
          have ek := hGk k' hk'
          subst ek
          refine ⟨k' + 1, by have := (List.getElem?_eq_some_iff.1 hk').1; omega, fun j p hj hp => ?_, fun j p hj hp => ?_, hc1 hci k' hk'⟩
          · unfold upd
            by_cases e : p = i
            · rw [if_pos e]
            · rw [if_neg e]
              refine hk1 j p ?_ hp
              by_cases e2 : j = k'
              · subst e2; rw [hk'] at hp; exact absurd (Option.some.inj hp).symm e
              · omega
          · unfold upd
            have e : ¬ p = i := fun e => by subst e; have := hinj j k' p hp hk'; omega
            rw [if_neg e]
            exact hk2 j p (by omega) hp
        · have hci' : c.contains i = false := by simpa using hci
          have hni : ∀ j p : Nat, c[j]? = some p → ¬ p = i := fun j p hp e => hci (by subst e; simpa using List.mem_of_getElem? hp)
          refine ⟨k, hkl, fun j p hj hp => ?_, fun j p hj hp => ?_, hc2 hci' k hG⟩
          · unfold upd; rw [if_neg (hni j p hp)]; exact hk1 j p hj hp
          · unfold upd; rw [if_neg (hni j p hp)]; exact hk2 j p hj hp
    · have hLe := hd e he hb
      cases hoe : ops[e.on]? with
      | none => rw [hoe] at hs'; cases hs'
      | some o2 =>
        rw [hoe] at hs'
        obtain ⟨s2, hs2, hds2⟩ := okSlots_at hss hoe
        rcases hds2 with ⟨h1, h2⟩ | ⟨h1, h2⟩
        · have e3 : s2 = s' := Option.some.inj (h1.symm.trans hs')
          subst e3
          have hvl : e.on < vs.length := by rw [hl]; exact (List.getElem?_eq_some_iff.1 hs2).1
          rw [eval_in a0 ss vs e.on s2 vs[e.on] hnd hl hs2 (by rw [hn]; exact h2) (List.getElem?_eq_getElem hvl)]
          exact hV _ _ hLe (List.getElem?_eq_getElem hvl)
        · have : (none : Option Nat) = some s' := h1.symm.trans hs'
          cases this
  · rintro L vs w hL hl ⟨hmod, hV, hD, k, hkl, hk1, hk2, hG⟩
    have hk : k = c.length := by
      rcases Nat.lt_or_ge k c.length with h | h
      · have h1 := hk2 k c[k] (Nat.le_refl _) (List.getElem?_eq_getElem h)
        rw [hL c[k] (by simpa using List.all_eq_true.1 hcs _ (List.getElem_mem h))] at h1
        cases h1
      · omega
    subst hk
    have hsl : ss.length = ops.size := by
      unfold okSlots at hss
      rw [Bool.and_eq_true] at hss
      simpa using hss.1
    refine fin vs w hl hmod hG fun p v hv => hV p v (hL p ?_) hv
    have := (List.getElem?_eq_some_iff.1 hv).1
    omega

variable {i : Nat} {o : Oper} {a : Act} {w w' : World} {l : List Pred} {S : Nat → Prop} {c : List Nat} {G : Nat → World → Prop}
theorem jv_pure (hc : c.contains i = false) (Gst : ∀ k w w', G k w → Mod (fun _ => False) w w' → G k w')
    (h : wpOp P ops Q i (fun a' w' => ∃ v, a' = a.put o.dst v ∧ Mod (fun _ => False) w w' ∧ (l.getD i anyv) v w') a w) :
    wpOp P ops Q i (JQ S l c G i o a w) a w :=
  wpOp_mono (fun a' w' ⟨v, h1, h2, h3⟩ => ⟨v, h1, h2.mono (fun _ _ h => h.elim), h3, (fun h => by rw [hc] at h; cases h), fun _ k hk => Gst k _ _ hk h2⟩) h
theorem at_one (hcn : c.Nodup) {k : Nat} (hk : c[k]? = some i) {k' : Nat} (hk' : c[k']? = some i) : k' = k := by
  exact (List.getElem?_inj (List.getElem?_eq_some_iff.1 hk').1 hcn).1 (hk'.trans hk.symm)
theorem jv_call (ho : ops[i]? = some o) (hw : Region.wanted o (yielded ops a.tmps) = true) {f : FuncId} {args : Array Value} {post : Ending → World → Prop} (hr : (execOp a.eval o).run P w = .ok (.enter f args) w) (hc : Calls P f args w post)
    (hcn : c.Nodup) {k : Nat} (hk : c[k]? = some i) (hp : ∀ e w', post e w' → ∃ v, e = .returned v ∧ Mod S w w' ∧ (l.getD i anyv) v w' ∧ G (k + 1) w') :
    wpOp P ops Q i (JQ S l c G i o a w) a w := by
  refine wpOp_step ho fun K' hK' => ?_
  rw [if_pos hw]
  unfold Oper.wp
  rw [hr]
  exact hc.mono fun e w' he => by
    obtain ⟨v, rfl, h1, h2, h3⟩ := hp e w' he
    exact hK' _ _ ⟨v, rfl, h1, h2, fun _ k' hk' => by rw [at_one hcn hk hk']; exact h3, (fun h => by have : i ∈ c := List.mem_of_getElem? hk; simp [this] at h)⟩
theorem jv_turn (ho : ops[i]? = some o) (hw : Region.wanted o (yielded ops a.tmps) = true) (hr : (execOp a.eval o).run P w = .ok .skip w') (hcn : c.Nodup) {k : Nat} (hk : c[k]? = some i) (hm : Mod S w w') (hv : (l.getD i anyv) undef w') (hg : G (k + 1) w') :
    wpOp P ops Q i (JQ S l c G i o a w) a w := by
  refine wpOp_step ho fun K' hK' => ?_
  rw [if_pos hw]
  unfold Oper.wp
  rw [hr]
  exact hK' _ _ ⟨undef, rfl, hm, hv, fun _ k' hk' => by rw [at_one hcn hk hk']; exact hg, (fun h => by have : i ∈ c := List.mem_of_getElem? hk; simp [this] at h)⟩
/-- an operation of the chain that only reads -/
theorem jv_same (hcn : c.Nodup) {k : Nat} (hk : c[k]? = some i)
    (h : wpOp P ops Q i (fun a' w' => ∃ v, a' = a.put o.dst v ∧ Mod (fun _ => False) w w' ∧ (l.getD i anyv) v w') a w) (hg : ∀ w', Mod (fun _ => False) w w' → G (k + 1) w') :
    wpOp P ops Q i (JQ S l c G i o a w) a w :=
  wpOp_mono (fun a' w' ⟨v, h1, h2, h3⟩ => ⟨v, h1, h2.mono (fun _ _ h => h.elim), h3, fun _ k' hk' => by rw [at_one hcn hk hk']; exact hg w' h2, (fun h => by have : i ∈ c := List.mem_of_getElem? hk; simp [this] at h)⟩) h
end
end Go.Gv
