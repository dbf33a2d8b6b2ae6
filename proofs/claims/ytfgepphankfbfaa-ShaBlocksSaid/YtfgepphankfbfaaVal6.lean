/- A region in which some operations, one behind the other (the chain), turn the world, each in its own way (Cr): what an operation may turn hangs on what the chain's answered. No program here. -/
import Derived.Test.YtfgepphankfbfaaVal4
set_option linter.unusedVariables false
namespace Go.Gv
open Go Go.RowKit

section
variable {P : Program} {ops : Array Oper} {Q : Exit → Act → World → Prop}
/-- how one of the chain may turn the world: the trail, its answer, the world ahead of it and behind it -/
abbrev CRel := List Value → Value → World → World → Prop
structure StableK (Cr : CRel) (R : Nat → World → World → Prop) (p : GPred) : Prop where
  still : ∀ t v w w', p t v w → R t.length w w' → p t v w'
  on : ∀ t u v w w', p t v w → Cr t u w w' → p (t ++ [u]) v w'
variable {Cr : CRel} {R : Nat → World → World → Prop}
theorem ki_stable {x : Value} : StableK Cr R (gi x) := ⟨fun _ _ _ _ h _ => h, fun _ _ _ _ _ h _ => h⟩
theorem ka_stable : StableK Cr R ga := ⟨fun _ _ _ _ h _ => h, fun _ _ _ _ _ h _ => h⟩
theorem kv_stable {j : Nat} : StableK Cr R (gv j) := ⟨fun _ _ _ _ h _ => h, fun _ _ _ _ _ h _ => gv_at h⟩
def AllStableK (Cr : CRel) (R : Nat → World → World → Prop) : List GPred → Prop
  | [] => True
  | p :: r => StableK Cr R p ∧ AllStableK Cr R r
theorem AllStableK.get : ∀ (l : List GPred), AllStableK Cr R l → ∀ i, StableK Cr R (l.getD i ga)
  | [], _, _ => by simpa using ka_stable
  | p :: r, h, 0 => h.1
  | p :: r, h, i + 1 => by simpa using AllStableK.get r h.2 i

/-- how an operation leaves things -/
def JK (Cr : CRel) (R : Nat → World → World → Prop) (l : List GPred) (c : List Nat) (G : List Value → World → Prop) (i : Nat) (o : Oper) (t : List Value) (a : Act) (w : World) : Act → World → Prop := fun a' w' =>
  ∃ v, a' = a.put o.dst v ∧ (c.contains i = true → Cr t v w w' ∧ (l.getD i ga) (t ++ [v]) v w' ∧ G (t ++ [v]) w') ∧ (c.contains i = false → R t.length w w' ∧ (l.getD i ga) t v w')
/-- what is to be shown of an operation -/
def StepK (P : Program) (ops : Array Oper) (Q : Exit → Act → World → Prop) (a0 : Act) (w0 : World) (n : Nat) (ss : List Nat) (T : Nat → Prop) (Cr : CRel) (R : Nat → World → World → Prop) (l : List GPred) (c : List Nat) (G : List Value → World → Prop) (i : Nat) (o : Oper) : Prop :=
  ∀ t a w, Mod T w0 w → (∀ t, t ∉ ss → a.eval (.tmp t) = a0.eval (.tmp t)) → (∀ s, s < n → s < a.tmps.size) →
    (∀ e ∈ o.after, Region.binds .any e = true → ∀ s, (ops[e.on]?).bind (·.dst) = some s → (l.getD e.on ga) t (a.eval (.tmp s)) w) → G t w → (∀ k, c[k]? = some i → t.length = k) → (∀ k q, c[k]? = some q → (clo ops ops.size (afterOf ops q)).contains i = true → t.length ≤ k) →
    wpOp P ops Q i (JK Cr R l c G i o t a w) a w

theorem wp_region_K {d : Bool} {id : Nat} {a0 : Act} {w0 : World} (n : Nat) (hn : a0.tmps.size = n) (hm : P.follows .mixedOrders = true) (hac : backward ops = true) (ss : List Nat) (hss : okSlots ops n ss = true) (hnd : ss.Nodup)
    (T : Nat → Prop) (Cr : CRel) (hT : ∀ t v w w', Cr t v w w' → Mod T w w') (R : Nat → World → World → Prop) (hR : ∀ k w w', Mod (fun _ => False) w w' → R k w w') (hRT : ∀ k w w', Mod T w0 w → R k w w' → Mod T w0 w') (l : List GPred) (stable : AllStableK Cr R l) (c : List Nat) (hlk : linked ops c = true) (hcn : c.Nodup) (hcs : (c.all fun i => decide (i < ops.size)) = true)
    (G : List Value → World → Prop) (Gst : ∀ t w w', G t w → R t.length w w' → G t w') (g0 : G [] w0)
    (step : Each (StepK P ops Q a0 w0 n ss T Cr R l c G) 0 ops.toList)
    (fin : ∀ vs t w, vs.length = ss.length → t.length = c.length → Mod T w0 w → G t w → (∀ p v, vs[p]? = some v → (l.getD p ga) t v w) → Q .normal (putAll a0 ss vs) w) : (Code.region id ops d).wp P Q a0 w0 := by
  have hinj : ∀ (j k i : Nat), c[j]? = some i → c[k]? = some i → j = k := by
    intro j k i h1 h2
    exact (List.getElem?_inj (List.getElem?_eq_some_iff.1 h1).1 hcn).1 (h1.trans h2.symm)
  refine wp_region_both hm (backward_spec hac) ss (fun L vs w => Mod T w0 w ∧ Down ops L ∧ ∃ t : List Value, t.length ≤ c.length ∧ (∀ j p, j < t.length → c[j]? = some p → L p = true) ∧ (∀ j p, t.length ≤ j → c[j]? = some p → L p = false) ∧ G t w ∧ ∀ p v, L p = true → vs[p]? = some v → (l.getD p ga) t v w)
    ⟨Mod.refl _ _, (fun i h => by cases h), [], Nat.zero_le _, (fun j p h => by simp at h), (fun _ _ _ _ => rfl), g0, (fun p v h => by cases h)⟩
    ⟨(Mod.refl _ _).drew, (fun i h => by cases h), [], Nat.zero_le _, (fun j p h => by simp at h), (fun _ _ _ _ => rfl), Gst _ _ _ g0 (hR _ _ _ (Mod.refl _ _).drew), (fun p v h => by cases h)⟩ ?_ ?_
  · rintro i o ho L vs w hL hd hl ⟨hmod, hD, t, hkl, hk1, hk2, hG, hV⟩
    have hst := Each.get _ 0 step i o (by simpa using ho)
    rw [Nat.zero_add] at hst
    obtain ⟨s, hs, hds⟩ := okSlots_at hss ho
    have haf : ∀ x ∈ afterOf ops i, L x = true := by
      intro x hx
      obtain ⟨o', ho', e, he, hb, rfl⟩ := mem_afterOf.1 hx
      rw [ho] at ho'
      cases ho'
      exact hd e he hb
    have hDn : Down ops (upd L i) := by
      intro j hj x hx
      unfold upd at hj ⊢
      by_cases e : x = i
      · rw [if_pos e]
      · rw [if_neg e]
        by_cases e2 : j = i
        · subst e2; exact haf x hx
        · rw [if_neg e2] at hj; exact hD j hj x hx
    have hGk : ∀ k' : Nat, c[k']? = some i → k' = t.length := by
      intro k' hk'
      have hall := linked_all hD hlk k' i hk' haf
      rcases Nat.lt_trichotomy k' t.length with h | h | h
      · have := hk1 k' i h hk'; rw [hL] at this; cases this
      · exact h
      · have hlt : t.length < c.length := by have := (List.getElem?_eq_some_iff.1 hk').1; omega
        have := hall t.length c[t.length] h (List.getElem?_eq_getElem hlt)
        rw [hk2 t.length c[t.length] (Nat.le_refl _) (List.getElem?_eq_getElem hlt)] at this
        cases this
    have hub : ∀ k q, c[k]? = some q → (clo ops ops.size (afterOf ops q)).contains i = true → t.length ≤ k := by
      intro k q hq hc
      rcases Nat.lt_or_ge k t.length with h | h
      · have h1 := hk1 k q h hq
        have h2 := clo_done hD _ _ (fun x hx => hD q h1 x hx) i (by simpa using hc)
        rw [hL] at h2
        cases h2
      · exact h
    refine wpOp_mono ?_ (hst t (putAll a0 ss vs) w hmod (fun t ht => eval_out _ _ _ _ ht) (fun t ht => by rw [putAll_size, hn]; exact ht) (fun e he hb s' hs' => ?_) hG (fun k' hk' => (hGk k' hk').symm) hub)
    · rintro a' w' ⟨v, rfl, hc1, hc2⟩
      have hlt : i < vs.length := by rw [hl]; exact (List.getElem?_eq_some_iff.1 hs).1
      have hput : (putAll a0 ss vs).put o.dst v = putAll a0 ss (vs.set i v) := by
        have e1 := putAll_put _ _ a0 i s v hnd hl hs
        rcases hds with ⟨h1, h2⟩ | ⟨h1, h2⟩
        · rw [h1]; exact e1
        · rw [h1, ← e1, put_far _ (by rw [putAll_size, hn]; exact h2)]; rfl
      by_cases hci : c.contains i = true
      · obtain ⟨hm', hv, hg'⟩ := hc1 hci
        refine ⟨vs.set i v, hput, by simpa using hl, hmod.trans (hT _ _ _ _ hm') (fun _ _ h => h), hDn, t ++ [v], ?_, fun j p hj hp => ?_, fun j p hj hp => ?_, hg', fun p u hp hu => ?_⟩
        · obtain ⟨k', hk'⟩ := List.getElem?_of_mem (show i ∈ c by simpa using hci)
          have := hGk k' hk'
          have := (List.getElem?_eq_some_iff.1 hk').1
          rw [List.length_append]; simp; omega
        · unfold upd
          by_cases e : p = i
          · rw [if_pos e]
          · rw [if_neg e]
            refine hk1 j p ?_ hp
            rw [List.length_append] at hj
            simp at hj
            by_cases e2 : j = t.length
            · subst e2
              obtain ⟨k', hk'⟩ := List.getElem?_of_mem (show i ∈ c by simpa using hci)
              have := hGk k' hk'
              subst this
              rw [hk'] at hp
              exact absurd (Option.some.inj hp).symm e
            · omega
        · rw [List.length_append] at hj
          simp at hj
          unfold upd
          have e : ¬ p = i := fun e => by subst e; have := hGk j hp; omega
          rw [if_neg e]
          exact hk2 j p (by omega) hp
        · by_cases e : p = i
          · subst e
            rw [List.getElem?_set_self', List.getElem?_eq_getElem hlt] at hu
            simp at hu
            subst hu
            exact hv
          · rw [List.getElem?_set_ne (Ne.symm e)] at hu
            unfold upd at hp
            rw [if_neg e] at hp
            exact (AllStableK.get l stable p).on _ _ _ _ _ (hV p u hp hu) hm'
      · have hci' : c.contains i = false := by simpa using hci
        obtain ⟨hm', hv⟩ := hc2 hci'
        have hni : ∀ j p : Nat, c[j]? = some p → ¬ p = i := fun j p hp e => hci (by subst e; simpa using List.mem_of_getElem? hp)
        refine ⟨vs.set i v, hput, by simpa using hl, hRT _ _ _ hmod hm', hDn, t, hkl, fun j p hj hp => ?_, fun j p hj hp => ?_, Gst _ _ _ hG hm', fun p u hp hu => ?_⟩
        · unfold upd; rw [if_neg (hni j p hp)]; exact hk1 j p hj hp
        · unfold upd; rw [if_neg (hni j p hp)]; exact hk2 j p hj hp
        · by_cases e : p = i
          · subst e
            rw [List.getElem?_set_self', List.getElem?_eq_getElem hlt] at hu
            simp at hu
            subst hu
            exact hv
          · rw [List.getElem?_set_ne (Ne.symm e)] at hu
            unfold upd at hp
            rw [if_neg e] at hp
            exact (AllStableK.get l stable p).still _ _ _ _ (hV p u hp hu) hm'
    · have hLe := hd e he hb
      cases hoe : ops[e.on]? with
      | none => rw [hoe] at hs'; cases hs'
      | some o2 =>
        rw [hoe] at hs'
        obtain ⟨s2, hs2, hds2⟩ := okSlots_at hss hoe
        rcases hds2 with ⟨h1, h2⟩ | ⟨h1, h2⟩
        · have e3 : s2 = s' := Option.some.inj (h1.symm.trans hs')
          subst e3
          have hvl : e.on < vs.length := by rw [hl]; exact (List.getElem?_eq_some_iff.1 hs2).1
          rw [eval_in a0 ss vs e.on s2 vs[e.on] hnd hl hs2 (by rw [hn]; exact h2) (List.getElem?_eq_getElem hvl)]
          exact hV _ _ hLe (List.getElem?_eq_getElem hvl)
        · have : (none : Option Nat) = some s' := h1.symm.trans hs'
          cases this
  · rintro L vs w hL hl ⟨hmod, hD, t, hkl, hk1, hk2, hG, hV⟩
    have hk : t.length = c.length := by
      rcases Nat.lt_or_ge t.length c.length with h | h
      · have h1 := hk2 t.length c[t.length] (Nat.le_refl _) (List.getElem?_eq_getElem h)
        rw [hL c[t.length] (by simpa using List.all_eq_true.1 hcs _ (List.getElem_mem h))] at h1
        cases h1
      · omega
    have hsl : ss.length = ops.size := by
      unfold okSlots at hss
      rw [Bool.and_eq_true] at hss
      simpa using hss.1
    refine fin vs t w hl hk hmod hG fun p v hv => hV p v (hL p ?_) hv
    have := (List.getElem?_eq_some_iff.1 hv).1
    omega

variable {i : Nat} {o : Oper} {a : Act} {w w' : World} {l : List GPred} {c : List Nat} {G : List Value → World → Prop} {t : List Value}
theorem kg_run (hc : c.contains i = false) (ho : ops[i]? = some o) (hw : Region.wanted o (yielded ops a.tmps) = true) {v : Value} (hr : (execOp a.eval o).run P w = .ok (.value v) w') (hm : R t.length w w') (hv : (l.getD i ga) t v w') : wpOp P ops Q i (JK Cr R l c G i o t a w) a w := by
  refine wpOp_step ho fun K' hK' => ?_
  rw [if_pos hw]
  unfold Oper.wp
  rw [hr]
  exact hK' _ _ ⟨v, rfl, (fun h => by rw [hc] at h; cases h), fun _ => ⟨hm, hv⟩⟩
theorem kg_skip (hR : ∀ k w w', Mod (fun _ => False) w w' → R k w w') (hc : c.contains i = false) (ho : ops[i]? = some o) (hw : Region.wanted o (yielded ops a.tmps) = false) (hv : (l.getD i ga) t undef w) : wpOp P ops Q i (JK Cr R l c G i o t a w) a w := by
  refine wpOp_step ho fun K' hK' => ?_
  rw [if_neg (by rw [hw]; decide)]
  exact hK' _ _ ⟨undef, rfl, (fun h => by rw [hc] at h; cases h), fun _ => ⟨hR _ _ _ (Mod.refl _ _), hv⟩⟩
theorem kg_call (hc : c.contains i = false) (ho : ops[i]? = some o) (hw : Region.wanted o (yielded ops a.tmps) = true) {f : FuncId} {args : Array Value} {post : Ending → World → Prop} (hr : (execOp a.eval o).run P w = .ok (.enter f args) w) (hcl : Calls P f args w post)
    (hp : ∀ e w', post e w' → ∃ v, e = .returned v ∧ R t.length w w' ∧ (l.getD i ga) t v w') : wpOp P ops Q i (JK Cr R l c G i o t a w) a w := by
  refine wpOp_step ho fun K' hK' => ?_
  rw [if_pos hw]
  unfold Oper.wp
  rw [hr]
  exact hcl.mono fun e w' he => by
    obtain ⟨v, rfl, h1, h2⟩ := hp e w' he
    exact hK' _ _ ⟨v, rfl, (fun h => by rw [hc] at h; cases h), fun _ => ⟨h1, h2⟩⟩
/-- the chain's: a run that answers -/
theorem kc_run (hc : c.contains i = true) (ho : ops[i]? = some o) (hw : Region.wanted o (yielded ops a.tmps) = true) {v : Value} (hr : (execOp a.eval o).run P w = .ok (.value v) w') (hm : Cr t v w w') (hv : (l.getD i ga) (t ++ [v]) v w') (hg : G (t ++ [v]) w') : wpOp P ops Q i (JK Cr R l c G i o t a w) a w := by
  refine wpOp_step ho fun K' hK' => ?_
  rw [if_pos hw]
  unfold Oper.wp
  rw [hr]
  exact hK' _ _ ⟨v, rfl, (fun _ => ⟨hm, hv, hg⟩), fun h => by rw [hc] at h; cases h⟩
theorem kc_turn (hc : c.contains i = true) (ho : ops[i]? = some o) (hw : Region.wanted o (yielded ops a.tmps) = true) (hr : (execOp a.eval o).run P w = .ok .skip w') (hm : Cr t undef w w') (hv : (l.getD i ga) (t ++ [undef]) undef w') (hg : G (t ++ [undef]) w') : wpOp P ops Q i (JK Cr R l c G i o t a w) a w := by
  refine wpOp_step ho fun K' hK' => ?_
  rw [if_pos hw]
  unfold Oper.wp
  rw [hr]
  exact hK' _ _ ⟨undef, rfl, (fun _ => ⟨hm, hv, hg⟩), fun h => by rw [hc] at h; cases h⟩
theorem kc_skip (hc : c.contains i = true) (ho : ops[i]? = some o) (hw : Region.wanted o (yielded ops a.tmps) = false) (hm : Cr t undef w w) (hv : (l.getD i ga) (t ++ [undef]) undef w) (hg : G (t ++ [undef]) w) : wpOp P ops Q i (JK Cr R l c G i o t a w) a w := by
  refine wpOp_step ho fun K' hK' => ?_
  rw [if_neg (by rw [hw]; decide)]
  exact hK' _ _ ⟨undef, rfl, (fun _ => ⟨hm, hv, hg⟩), fun h => by rw [hc] at h; cases h⟩
theorem kc_call (hc : c.contains i = true) (ho : ops[i]? = some o) (hw : Region.wanted o (yielded ops a.tmps) = true) {f : FuncId} {args : Array Value} {post : Ending → World → Prop} (hr : (execOp a.eval o).run P w = .ok (.enter f args) w) (hcl : Calls P f args w post)
    (hp : ∀ e w', post e w' → ∃ v, e = .returned v ∧ Cr t v w w' ∧ (l.getD i ga) (t ++ [v]) v w' ∧ G (t ++ [v]) w') : wpOp P ops Q i (JK Cr R l c G i o t a w) a w := by
  refine wpOp_step ho fun K' hK' => ?_
  rw [if_pos hw]
  unfold Oper.wp
  rw [hr]
  exact hcl.mono fun e w' he => by
    obtain ⟨v, rfl, h1, h2, h3⟩ := hp e w' he
    exact hK' _ _ ⟨v, rfl, (fun _ => ⟨h1, h2, h3⟩), fun h => by rw [hc] at h; cases h⟩
end
/-- a value's own block: a slice's, a pointer's -/
def owns : Value → Nat → Prop
  | .slice (some a) _ _, j => a.block = j
  | .pointer (some a), j => a.block = j
  | _, _ => False
def OnTr (t : List Value) (j : Nat) : Prop := ∃ u ∈ t, owns u j
/-- the standard way: of the old blocks (below B) those of S0 are turned, of the new ones those that the chain's answers own; an answer owns an old block, one of the trail, or one that is new -/
structure KMod (B : Nat) (S0 : Nat → Nat → Prop) (t : List Value) (v : Value) (w w' : World) : Prop where
  m : Mod (fun j => (j < B ∧ S0 t.length j) ∨ (B ≤ j ∧ OnTr t j)) w w'
  own : ∀ j, owns v j → j < B ∨ OnTr t j ∨ w.heap.size ≤ j
theorem KMod.T {B : Nat} {S0 : Nat → Nat → Prop} {T : Nat → Prop} (h0 : ∀ k j, j < B → S0 k j → T j) (h1 : ∀ j, B ≤ j → T j) : ∀ t v w w', KMod B S0 t v w w' → Mod T w w' := fun t v w w' h => h.m.mono (fun j _ hs => hs.elim (fun h => h0 _ _ h.1 h.2) (fun h => h1 _ h.1))
theorem KMod.quiet {B : Nat} {S0 : Nat → Nat → Prop} {t : List Value} {v : Value} {w w' : World} (hm : Mod (fun _ => False) w w') (hv : ∀ j, owns v j → j < B ∨ OnTr t j ∨ w.heap.size ≤ j) : KMod B S0 t v w w' := ⟨hm.mono (fun _ _ h => h.elim), hv⟩
theorem owns_block {v : Value} {a : Option Addr} {n c : Nat} (h : v = .slice a n c) {j : Nat} : owns v j ↔ v.ownBlock = some j := by
  subst h
  cases a with
  | none => simp [owns, Value.ownBlock]
  | some a => simp [owns, Value.ownBlock]
/-- a literal's row: no answer of the chain owns its block, so none of the chain turns it -/
def litK (B : Nat) (T8 : TypeId) (C : Array Value) : GPred := fun t v w => ∃ g, v = .slice (some ⟨g, 0, none⟩) C.size C.size ∧ B ≤ g ∧ ¬ OnTr t g ∧ w.heap[g]? = some (.cells C T8 (0, 0))
theorem litK_stable {B : Nat} {T8 : TypeId} {C : Array Value} {S0 : Nat → Nat → Prop} : StableK (KMod B S0) Still (litK B T8 C) where
  still t v w w' h hr := by
    obtain ⟨g, h1, h2, h3, h4⟩ := h
    exact ⟨g, h1, h2, h3, Mod.obj hr h4 (fun h => h)⟩
  on t u v w w' h hm := by
    obtain ⟨g, h1, h2, h3, h4⟩ := h
    refine ⟨g, h1, h2, ?_, hm.m.obj h4 (fun hs => ?_)⟩
    · rintro ⟨x, hx, ho⟩
      rw [List.mem_append] at hx
      rcases hx with hx | hx
      · exact h3 ⟨x, hx, ho⟩
      · simp at hx
        subst hx
        rcases hm.own _ ho with h | h | h
        · omega
        · exact h3 h
        · have := (Array.getElem?_eq_some_iff.1 h4).1; omega
    · rcases hs with hs | hs
      · omega
      · exact h3 hs.2
theorem litK_new {B : Nat} {T8 : TypeId} {C : Array Value} {t : List Value} {w : World} (hB : B ≤ w.heap.size) (hg : ∀ j, OnTr t j → j < w.heap.size) : litK B T8 C t (.slice (some ⟨w.heap.size, 0, none⟩) C.size C.size) (w.alloc (.cells C T8)) :=
  ⟨_, rfl, hB, (fun h => Nat.lt_irrefl _ (hg _ h)), heap_alloc_new _ _⟩
/-- a state that goes by how many of the chain are done; what the trail's answers own is there -/
def KG (St : Nat → List Value → World → Prop) : List Value → World → Prop := fun t w => ByLen St t w ∧ ∀ j, OnTr t j → j < w.heap.size
section
variable {St : Nat → List Value → World → Prop} {t : List Value} {w w' : World} {v : Value} {k : Nat}
theorem KG.start (h : St 0 [] w) : KG St [] w := ⟨h, fun j ⟨u, hu, _⟩ => by cases hu⟩
theorem KG.at (h : KG St t w) (hl : t.length = k) : St k t w := h.1.at hl
theorem KG.on (hg : KG St t w) (hl : t.length = k) (hsz : w.heap.size ≤ w'.heap.size) (hv : ∀ j, owns v j → j < w'.heap.size) (h : St (k + 1) (t ++ [v]) w') : KG St (t ++ [v]) w' :=
  ⟨ByLen.on hl h, fun j ⟨u, hu, ho⟩ => by
    rw [List.mem_append] at hu
    rcases hu with hu | hu
    · exact Nat.lt_of_lt_of_le (hg.2 j ⟨u, hu, ho⟩) hsz
    · simp at hu
      subst hu
      exact hv j ho⟩
theorem KG.still (h : ∀ k t w w', St k t w → Mod (fun _ => False) w w' → St k t w') : ∀ t w w', KG St t w → Still t.length w w' → KG St t w' := fun t w w' h1 h2 => ⟨ByLen.still h t w w' h1.1 h2, fun j hj => Nat.lt_of_lt_of_le (h1.2 j hj) (Mod.size h2)⟩
end
end Go.Gv
