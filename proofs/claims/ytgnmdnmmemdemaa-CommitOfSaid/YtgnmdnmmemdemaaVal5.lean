/- As XVal3; besides: a slot that an operation reads ahead of the one that writes it. No program here. -/
import Derived.Test.YtgnmdnmmemdemaaVal3
set_option linter.unusedVariables false
namespace Go.Gv
open Go Go.RowKit

section
variable {P : Program} {ops : Array Oper} {Q : Exit → Act → World → Prop}
/-- what is to be shown of an operation -/
def StepH (P : Program) (ops : Array Oper) (Q : Exit → Act → World → Prop) (a0 : Act) (w0 : World) (n : Nat) (ss : List Nat) (T : Nat → Prop) (S : Nat → Nat → Prop) (R : Nat → World → World → Prop) (l : List GPred) (c : List Nat) (G : List Value → World → Prop) (i : Nat) (o : Oper) : Prop :=
  ∀ t a w, Mod T w0 w → (∀ t, t ∉ ss → a.eval (.tmp t) = a0.eval (.tmp t)) → (∀ s, s < n → s < a.tmps.size) →
    (∀ e ∈ o.after, Region.binds .any e = true → ∀ s, (ops[e.on]?).bind (·.dst) = some s → (l.getD e.on ga) t (a.eval (.tmp s)) w) → G t w → (∀ k, c[k]? = some i → t.length = k) → (∀ k q, c[k]? = some q → (clo ops ops.size (afterOf ops q)).contains i = true → t.length ≤ k) → (∀ p s, ss[p]? = some s → (clo ops ops.size (afterOf ops p)).contains i = true → a.eval (.tmp s) = a0.eval (.tmp s)) →
    wpOp P ops Q i (JG S R l c G i o t a w) a w

theorem wp_region_H {d : Bool} {id : Nat} {a0 : Act} {w0 : World} (n : Nat) (hn : a0.tmps.size = n) (hm : P.follows .mixedOrders = true) (hac : backward ops = true) (ss : List Nat) (hss : okSlots ops n ss = true) (hnd : ss.Nodup)
    (T : Nat → Prop) (S : Nat → Nat → Prop) (hT : ∀ k j, S k j → T j) (R : Nat → World → World → Prop) (hR : ∀ k w w', Mod (fun _ => False) w w' → R k w w') (hRT : ∀ k w w', Mod T w0 w → R k w w' → Mod T w0 w') (l : List GPred) (stable : AllStableG S R l) (c : List Nat) (hlk : linked ops c = true) (hcn : c.Nodup) (hcs : (c.all fun i => decide (i < ops.size)) = true)
    (G : List Value → World → Prop) (Gst : ∀ t w w', G t w → R t.length w w' → G t w') (g0 : G [] w0)
    (step : Each (StepH P ops Q a0 w0 n ss T S R l c G) 0 ops.toList)
    (fin : ∀ vs t w, vs.length = ss.length → t.length = c.length → Mod T w0 w → G t w → (∀ p v, vs[p]? = some v → (l.getD p ga) t v w) → Q .normal (putAll a0 ss vs) w) : (Code.region id ops d).wp P Q a0 w0 := by
  have hinj : ∀ (j k i : Nat), c[j]? = some i → c[k]? = some i → j = k := by
    intro j k i h1 h2
    exact (List.getElem?_inj (List.getElem?_eq_some_iff.1 h1).1 hcn).1 (h1.trans h2.symm)
  refine wp_region_both hm (backward_spec hac) ss (fun L vs w => Mod T w0 w ∧ (∀ p, L p = false → vs[p]? = (ss.map fun s => a0.tmps.getD s undef)[p]?) ∧ Down ops L ∧ ∃ t : List Value, t.length ≤ c.length ∧ (∀ j p, j < t.length → c[j]? = some p → L p = true) ∧ (∀ j p, t.length ≤ j → c[j]? = some p → L p = false) ∧ G t w ∧ ∀ p v, L p = true → vs[p]? = some v → (l.getD p ga) t v w)
    ⟨Mod.refl _ _, (fun _ _ => rfl), (fun i h => by cases h), [], Nat.zero_le _, (fun j p h => by simp at h), (fun _ _ _ _ => rfl), g0, (fun p v h => by cases h)⟩
    ⟨(Mod.refl _ _).drew, (fun _ _ => rfl), (fun i h => by cases h), [], Nat.zero_le _, (fun j p h => by simp at h), (fun _ _ _ _ => rfl), Gst _ _ _ g0 (hR _ _ _ (Mod.refl _ _).drew), (fun p v h => by cases h)⟩ ?_ ?_
  · rintro i o ho L vs w hL hd hl ⟨hmod, hI, hD, t, hkl, hk1, hk2, hG, hV⟩
    have hst := Each.get _ 0 step i o (by simpa using ho)
    rw [Nat.zero_add] at hst
    obtain ⟨s, hs, hds⟩ := okSlots_at hss ho
    have haf : ∀ x ∈ afterOf ops i, L x = true := by
      intro x hx
      obtain ⟨o', ho', e, he, hb, rfl⟩ := mem_afterOf.1 hx
      rw [ho] at ho'
      cases ho'
      exact hd e he hb
    have hDn : Down ops (upd L i) := by
      intro j hj x hx
      unfold upd at hj ⊢
      by_cases e : x = i
      · rw [if_pos e]
      · rw [if_neg e]
        by_cases e2 : j = i
        · subst e2; exact haf x hx
        · rw [if_neg e2] at hj; exact hD j hj x hx
    have hGk : ∀ k' : Nat, c[k']? = some i → k' = t.length := by
      intro k' hk'
      have hall := linked_all hD hlk k' i hk' haf
      rcases Nat.lt_trichotomy k' t.length with h | h | h
      · have := hk1 k' i h hk'; rw [hL] at this; cases this
      · exact h
      · have hlt : t.length < c.length := by have := (List.getElem?_eq_some_iff.1 hk').1; omega
        have := hall t.length c[t.length] h (List.getElem?_eq_getElem hlt)
        rw [hk2 t.length c[t.length] (Nat.le_refl _) (List.getElem?_eq_getElem hlt)] at this
        cases this
    have hub : ∀ k q, c[k]? = some q → (clo ops ops.size (afterOf ops q)).contains i = true → t.length ≤ k := by
      intro k q hq hc
      rcases Nat.lt_or_ge k t.length with h | h
      · have h1 := hk1 k q h hq
        have h2 := clo_done hD _ _ (fun x hx => hD q h1 x hx) i (by simpa using hc)
        rw [hL] at h2
        cases h2
      · exact h
    have hpre : ∀ p s', ss[p]? = some s' → (clo ops ops.size (afterOf ops p)).contains i = true → (putAll a0 ss vs).eval (.tmp s') = a0.eval (.tmp s') := by
      intro p s' hp hc
      have hLp : L p = false := by
        cases hq : L p with
        | false => rfl
        | true =>
          have := clo_done hD _ _ (fun x hx => hD p hq x hx) i (by simpa using hc)
          rw [hL] at this
          cases this
      have hv := hI p hLp
      rw [List.getElem?_map, hp] at hv
      have hpl : p < ss.length := (List.getElem?_eq_some_iff.1 hp).1
      rcases Nat.lt_or_ge s' n with hsn | hsn
      · rw [eval_in a0 ss vs p s' _ hnd hl hp (by rw [hn]; exact hsn) hv]
        rfl
      · have h1 : ∀ b : Act, b.tmps.size = n → b.eval (.tmp s') = undef := fun b hb => by
          simp only [Act.eval, Array.getD_eq_getD_getElem?]
          rw [Array.getElem?_eq_none (by omega)]
          rfl
        rw [h1 _ (by rw [putAll_size, hn]), h1 _ hn]
    have hIn : ∀ v p, upd L i p = false → (vs.set i v)[p]? = (ss.map fun s => a0.tmps.getD s undef)[p]? := by
      intro v p hp
      unfold upd at hp
      by_cases e : p = i
      · rw [if_pos e] at hp; cases hp
      · rw [if_neg e] at hp
        rw [List.getElem?_set_ne (Ne.symm e)]
        exact hI p hp
    refine wpOp_mono ?_ (hst t (putAll a0 ss vs) w hmod (fun t ht => eval_out _ _ _ _ ht) (fun t ht => by rw [putAll_size, hn]; exact ht) (fun e he hb s' hs' => ?_) hG (fun k' hk' => (hGk k' hk').symm) hub hpre)
    · rintro a' w' ⟨v, rfl, hc1, hc2⟩
      have hlt : i < vs.length := by rw [hl]; exact (List.getElem?_eq_some_iff.1 hs).1
      have hput : (putAll a0 ss vs).put o.dst v = putAll a0 ss (vs.set i v) := by
        have e1 := putAll_put _ _ a0 i s v hnd hl hs
        rcases hds with ⟨h1, h2⟩ | ⟨h1, h2⟩
        · rw [h1]; exact e1
        · rw [h1, ← e1, put_far _ (by rw [putAll_size, hn]; exact h2)]; rfl
      by_cases hci : c.contains i = true
      · obtain ⟨hm', hv, hg'⟩ := hc1 hci
        refine ⟨vs.set i v, hput, by simpa using hl, hmod.trans hm' (fun j _ h => hT _ _ h), hIn v, hDn, t ++ [v], ?_, fun j p hj hp => ?_, fun j p hj hp => ?_, hg', fun p u hp hu => ?_⟩
        · obtain ⟨k', hk'⟩ := List.getElem?_of_mem (show i ∈ c by simpa using hci)
          have := hGk k' hk'
          have := (List.getElem?_eq_some_iff.1 hk').1
          rw [List.length_append]; simp; omega
        · unfold upd
          by_cases e : p = i
          · rw [if_pos e]
          · rw [if_neg e]
            refine hk1 j p ?_ hp
            rw [List.length_append] at hj
            simp at hj
            by_cases e2 : j = t.length
            · subst e2
              obtain ⟨k', hk'⟩ := List.getElem?_of_mem (show i ∈ c by simpa using hci)
              have := hGk k' hk'
              subst this
              rw [hk'] at hp
              exact absurd (Option.some.inj hp).symm e
            · omega
        · rw [List.length_append] at hj
          simp at hj
          unfold upd
          have e : ¬ p = i := fun e => by subst e; have := hGk j hp; omega
          rw [if_neg e]
          exact hk2 j p (by omega) hp
        · by_cases e : p = i
          · subst e
            rw [List.getElem?_set_self', List.getElem?_eq_getElem hlt] at hu
            simp at hu
            subst hu
            exact hv
          · rw [List.getElem?_set_ne (Ne.symm e)] at hu
            unfold upd at hp
            rw [if_neg e] at hp
            exact (AllStableG.get l stable p).on _ _ _ _ _ (hV p u hp hu) hm'
      · have hci' : c.contains i = false := by simpa using hci
        obtain ⟨hm', hv⟩ := hc2 hci'
        have hni : ∀ j p : Nat, c[j]? = some p → ¬ p = i := fun j p hp e => hci (by subst e; simpa using List.mem_of_getElem? hp)
        refine ⟨vs.set i v, hput, by simpa using hl, hRT _ _ _ hmod hm', hIn v, hDn, t, hkl, fun j p hj hp => ?_, fun j p hj hp => ?_, Gst _ _ _ hG hm', fun p u hp hu => ?_⟩
        · unfold upd; rw [if_neg (hni j p hp)]; exact hk1 j p hj hp
        · unfold upd; rw [if_neg (hni j p hp)]; exact hk2 j p hj hp
        · by_cases e : p = i
          · subst e
            rw [List.getElem?_set_self', List.getElem?_eq_getElem hlt] at hu
            simp at hu
            subst hu
            exact hv
          · rw [List.getElem?_set_ne (Ne.symm e)] at hu
            unfold upd at hp
            rw [if_neg e] at hp
            exact (AllStableG.get l stable p).still _ _ _ _ (hV p u hp hu) hm'
    · have hLe := hd e he hb
      cases hoe : ops[e.on]? with
      | none => rw [hoe] at hs'; cases hs'
      | some o2 =>
        rw [hoe] at hs'
        obtain ⟨s2, hs2, hds2⟩ := okSlots_at hss hoe
        rcases hds2 with ⟨h1, h2⟩ | ⟨h1, h2⟩
        · have e3 : s2 = s' := Option.some.inj (h1.symm.trans hs')
          subst e3
          have hvl : e.on < vs.length := by rw [hl]; exact (List.getElem?_eq_some_iff.1 hs2).1
          rw [eval_in a0 ss vs e.on s2 vs[e.on] hnd hl hs2 (by rw [hn]; exact h2) (List.getElem?_eq_getElem hvl)]
          exact hV _ _ hLe (List.getElem?_eq_getElem hvl)
        · have : (none : Option Nat) = some s' := h1.symm.trans hs'
          cases this
  · rintro L vs w hL hl ⟨hmod, hI, hD, t, hkl, hk1, hk2, hG, hV⟩
    have hk : t.length = c.length := by
      rcases Nat.lt_or_ge t.length c.length with h | h
      · have h1 := hk2 t.length c[t.length] (Nat.le_refl _) (List.getElem?_eq_getElem h)
        rw [hL c[t.length] (by simpa using List.all_eq_true.1 hcs _ (List.getElem_mem h))] at h1
        cases h1
      · omega
    have hsl : ss.length = ops.size := by
      unfold okSlots at hss
      rw [Bool.and_eq_true] at hss
      simpa using hss.1
    refine fin vs t w hl hk hmod hG fun p v hv => hV p v (hL p ?_) hv
    have := (List.getElem?_eq_some_iff.1 hv).1
    omega
end
end Go.Gv
