/- A region of either kind in which some operations, one behind the other (the chain), turn the world; what they answered (the trail) is known to the state and to all that comes behind. No program here. -/
import Derived.Test.YtknpapcfhnhheaaOps
import Derived.Great.BuildSlice
import Derived.Laws.IdiomStrings
import Derived.Laws.BytesArg
set_option linter.unusedVariables false
namespace Go.Gv
open Go Go.RowKit

section
variable {P : Program} {ops : Array Oper} {Q : Exit → Act → World → Prop}
abbrev GPred := List Value → Value → World → Prop
def gi (x : Value) : GPred := fun _ v _ => v = x
def ga : GPred := fun _ _ _ => True
/-- the answer of the chain's j-th -/
def gv (j : Nat) : GPred := fun t v _ => t[j]? = some v
structure StableG (S : Nat → Nat → Prop) (R : Nat → World → World → Prop) (p : GPred) : Prop where
  still : ∀ t v w w', p t v w → R t.length w w' → p t v w'
  on : ∀ t u v w w', p t v w → Mod (S t.length) w w' → p (t ++ [u]) v w'
variable {S : Nat → Nat → Prop} {R : Nat → World → World → Prop}
theorem gi_stable {x : Value} : StableG S R (gi x) := ⟨fun _ _ _ _ h _ => h, fun _ _ _ _ _ h _ => h⟩
theorem ga_stable : StableG S R ga := ⟨fun _ _ _ _ h _ => h, fun _ _ _ _ _ h _ => h⟩
theorem gv_at {t : List Value} {j : Nat} {v u : Value} (h : t[j]? = some v) : (t ++ [u])[j]? = some v := by
  rw [List.getElem?_append_left (List.getElem?_eq_some_iff.1 h).1]; exact h
theorem gv_stable {j : Nat} : StableG S R (gv j) := ⟨fun _ _ _ _ h _ => h, fun _ _ _ _ _ h _ => gv_at h⟩
theorem gv_new (t : List Value) (v : Value) (w : World) {k : Nat} (hk : t.length = k) : gv k (t ++ [v]) v w := by
  subst hk
  show (t ++ [v])[t.length]? = some v
  simp
def AllStableG (S : Nat → Nat → Prop) (R : Nat → World → World → Prop) : List GPred → Prop
  | [] => True
  | p :: r => StableG S R p ∧ AllStableG S R r
theorem AllStableG.get : ∀ (l : List GPred), AllStableG S R l → ∀ i, StableG S R (l.getD i ga)
  | [], _, _ => by simpa using ga_stable
  | p :: r, h, 0 => h.1
  | p :: r, h, i + 1 => by simpa using AllStableG.get r h.2 i

/-- how an operation leaves things -/
def JG (S : Nat → Nat → Prop) (R : Nat → World → World → Prop) (l : List GPred) (c : List Nat) (G : List Value → World → Prop) (i : Nat) (o : Oper) (t : List Value) (a : Act) (w : World) : Act → World → Prop := fun a' w' =>
  ∃ v, a' = a.put o.dst v ∧ (c.contains i = true → Mod (S t.length) w w' ∧ (l.getD i ga) (t ++ [v]) v w' ∧ G (t ++ [v]) w') ∧ (c.contains i = false → R t.length w w' ∧ (l.getD i ga) t v w')
/-- what is to be shown of an operation -/
def StepG (P : Program) (ops : Array Oper) (Q : Exit → Act → World → Prop) (a0 : Act) (w0 : World) (n : Nat) (ss : List Nat) (T : Nat → Prop) (S : Nat → Nat → Prop) (R : Nat → World → World → Prop) (l : List GPred) (c : List Nat) (G : List Value → World → Prop) (i : Nat) (o : Oper) : Prop :=
  ∀ t a w, Mod T w0 w → (∀ t, t ∉ ss → a.eval (.tmp t) = a0.eval (.tmp t)) → (∀ s, s < n → s < a.tmps.size) →
    (∀ e ∈ o.after, Region.binds .any e = true → ∀ s, (ops[e.on]?).bind (·.dst) = some s → (l.getD e.on ga) t (a.eval (.tmp s)) w) → G t w → (∀ k, c[k]? = some i → t.length = k) → (∀ k q, c[k]? = some q → (clo ops ops.size (afterOf ops q)).contains i = true → t.length ≤ k) →
    wpOp P ops Q i (JG S R l c G i o t a w) a w

theorem wp_region_G {d : Bool} {id : Nat} {a0 : Act} {w0 : World} (n : Nat) (hn : a0.tmps.size = n) (hm : P.follows .mixedOrders = true) (hac : backward ops = true) (ss : List Nat) (hss : okSlots ops n ss = true) (hnd : ss.Nodup)
    (T : Nat → Prop) (S : Nat → Nat → Prop) (hT : ∀ k j, S k j → T j) (R : Nat → World → World → Prop) (hR : ∀ k w w', Mod (fun _ => False) w w' → R k w w') (hRT : ∀ k w w', Mod T w0 w → R k w w' → Mod T w0 w') (l : List GPred) (stable : AllStableG S R l) (c : List Nat) (hlk : linked ops c = true) (hcn : c.Nodup) (hcs : (c.all fun i => decide (i < ops.size)) = true)
    (G : List Value → World → Prop) (Gst : ∀ t w w', G t w → R t.length w w' → G t w') (g0 : G [] w0)
    (step : Each (StepG P ops Q a0 w0 n ss T S R l c G) 0 ops.toList)
    (fin : ∀ vs t w, vs.length = ss.length → t.length = c.length → Mod T w0 w → G t w → (∀ p v, vs[p]? = some v → (l.getD p ga) t v w) → Q .normal (putAll a0 ss vs) w) : (Code.region id ops d).wp P Q a0 w0 := by
  have hinj : ∀ (j k i : Nat), c[j]? = some i → c[k]? = some i → j = k := by
    intro j k i h1 h2
    exact (List.getElem?_inj (List.getElem?_eq_some_iff.1 h1).1 hcn).1 (h1.trans h2.symm)
  refine wp_region_both hm (backward_spec hac) ss (fun L vs w => Mod T w0 w ∧ Down ops L ∧ ∃ t : List Value, t.length ≤ c.length ∧ (∀ j p, j < t.length → c[j]? = some p → L p = true) ∧ (∀ j p, t.length ≤ j → c[j]? = some p → L p = false) ∧ G t w ∧ ∀ p v, L p = true → vs[p]? = some v → (l.getD p ga) t v w)
    ⟨Mod.refl _ _, (fun i h => by cases h), [], Nat.zero_le _, (fun j p h => by simp at h), (fun _ _ _ _ => rfl), g0, (fun p v h => by cases h)⟩
    ⟨(Mod.refl _ _).drew, (fun i h => by cases h), [], Nat.zero_le _, (fun j p h => by simp at h), (fun _ _ _ _ => rfl), Gst _ _ _ g0 (hR _ _ _ (Mod.refl _ _).drew), (fun p v h => by cases h)⟩ ?_ ?_
  · rintro i o ho L vs w hL hd hl ⟨hmod, hD, t, hkl, hk1, hk2, hG, hV⟩
    have hst := Each.get _ 0 step i o (by simpa using ho)
    rw [Nat.zero_add] at hst
    obtain ⟨s, hs, hds⟩ := okSlots_at hss ho
    have haf : ∀ x ∈ afterOf ops i, L x = true := by
      intro x hx
      obtain ⟨o', ho', e, he, hb, rfl⟩ := mem_afterOf.1 hx
      rw [ho] at ho'
      cases ho'
      exact hd e he hb
    have hDn : Down ops (upd L i) := by
      intro j hj x hx
      unfold upd at hj ⊢
      by_cases e : x = i
      · rw [if_pos e]
      · rw [if_neg e]
        by_cases e2 : j = i
        · subst e2; exact haf x hx
        · rw [if_neg e2] at hj; exact hD j hj x hx
    have hGk : ∀ k' : Nat, c[k']? = some i → k' = t.length := by
      intro k' hk'
      have hall := linked_all hD hlk k' i hk' haf
      rcases Nat.lt_trichotomy k' t.length with h | h | h
      · have := hk1 k' i h hk'; rw [hL] at this; cases this
      · exact h
      · have hlt : t.length < c.length := by have := (List.getElem?_eq_some_iff.1 hk').1; omega
        have := hall t.length c[t.length] h (List.getElem?_eq_getElem hlt)
        rw [hk2 t.length c[t.length] (Nat.le_refl _) (List.getElem?_eq_getElem hlt)] at this
        cases this
    have hub : ∀ k q, c[k]? = some q → (clo ops ops.size (afterOf ops q)).contains i = true → t.length ≤ k := by
      intro k q hq hc
      rcases Nat.lt_or_ge k t.length with h | h
      · have h1 := hk1 k q h hq
        have h2 := clo_done hD _ _ (fun x hx => hD q h1 x hx) i (by simpa using hc)
        rw [hL] at h2
        cases h2
      · exact h
    refine wpOp_mono ?_ (hst t (putAll a0 ss vs) w hmod (fun t ht => eval_out _ _ _ _ ht) (fun t ht => by rw [putAll_size, hn]; exact ht) (fun e he hb s' hs' => ?_) hG (fun k' hk' => (hGk k' hk').symm) hub)
    · rintro a' w' ⟨v, rfl, hc1, hc2⟩
      have hlt : i < vs.length := by rw [hl]; exact (List.getElem?_eq_some_iff.1 hs).1
      have hput : (putAll a0 ss vs).put o.dst v = putAll a0 ss (vs.set i v) := by
        have e1 := putAll_put _ _ a0 i s v hnd hl hs
        rcases hds with ⟨h1, h2⟩ | ⟨h1, h2⟩
        · rw [h1]; exact e1
        · rw [h1, ← e1, put_far _ (by rw [putAll_size, hn]; exact h2)]; rfl
      by_cases hci : c.contains i = true
      · obtain ⟨hm', hv, hg'⟩ := hc1 hci
        refine ⟨vs.set i v, hput, by simpa using hl, hmod.trans hm' (fun j _ h => hT _ _ h), hDn, t ++ [v], ?_, fun j p hj hp => ?_, fun j p hj hp => ?_, hg', fun p u hp hu => ?_⟩
        · obtain ⟨k', hk'⟩ := List.getElem?_of_mem (show i ∈ c by simpa using hci)
          have := hGk k' hk'
          have := (List.getElem?_eq_some_iff.1 hk').1
          rw [List.length_append]; simp; omega
        · unfold upd
          by_cases e : p = i
          · rw [if_pos e]
          · rw [if_neg e]
            refine hk1 j p ?_ hp
            rw [List.length_append] at hj
            simp at hj
            by_cases e2 : j = t.length
            · subst e2
              obtain ⟨k', hk'⟩ := List.getElem?_of_mem (show i ∈ c by simpa using hci)
              have := hGk k' hk'
              subst this
              rw [hk'] at hp
              exact absurd (Option.some.inj hp).symm e
            · omega
        · rw [List.length_append] at hj
          simp at hj
          unfold upd
          have e : ¬ p = i := fun e => by subst e; have := hGk j hp; omega
          rw [if_neg e]
          exact hk2 j p (by omega) hp
        · by_cases e : p = i
          · subst e
            rw [List.getElem?_set_self', List.getElem?_eq_getElem hlt] at hu
            simp at hu
            subst hu
            exact hv
          · rw [List.getElem?_set_ne (Ne.symm e)] at hu
            unfold upd at hp
            rw [if_neg e] at hp
            exact (AllStableG.get l stable p).on _ _ _ _ _ (hV p u hp hu) hm'
      · have hci' : c.contains i = false := by simpa using hci
        obtain ⟨hm', hv⟩ := hc2 hci'
        have hni : ∀ j p : Nat, c[j]? = some p → ¬ p = i := fun j p hp e => hci (by subst e; simpa using List.mem_of_getElem? hp)
        refine ⟨vs.set i v, hput, by simpa using hl, hRT _ _ _ hmod hm', hDn, t, hkl, fun j p hj hp => ?_, fun j p hj hp => ?_, Gst _ _ _ hG hm', fun p u hp hu => ?_⟩
        · unfold upd; rw [if_neg (hni j p hp)]; exact hk1 j p hj hp
        · unfold upd; rw [if_neg (hni j p hp)]; exact hk2 j p hj hp
        · by_cases e : p = i
          · subst e
            rw [List.getElem?_set_self', List.getElem?_eq_getElem hlt] at hu
            simp at hu
            subst hu
            exact hv
          · rw [List.getElem?_set_ne (Ne.symm e)] at hu
            unfold upd at hp
            rw [if_neg e] at hp
            exact (AllStableG.get l stable p).still _ _ _ _ (hV p u hp hu) hm'
    · have hLe := hd e he hb
      cases hoe : ops[e.on]? with
      | none => rw [hoe] at hs'; cases hs'
      | some o2 =>
        rw [hoe] at hs'
        obtain ⟨s2, hs2, hds2⟩ := okSlots_at hss hoe
        rcases hds2 with ⟨h1, h2⟩ | ⟨h1, h2⟩
        · have e3 : s2 = s' := Option.some.inj (h1.symm.trans hs')
          subst e3
          have hvl : e.on < vs.length := by rw [hl]; exact (List.getElem?_eq_some_iff.1 hs2).1
          rw [eval_in a0 ss vs e.on s2 vs[e.on] hnd hl hs2 (by rw [hn]; exact h2) (List.getElem?_eq_getElem hvl)]
          exact hV _ _ hLe (List.getElem?_eq_getElem hvl)
        · have : (none : Option Nat) = some s' := h1.symm.trans hs'
          cases this
  · rintro L vs w hL hl ⟨hmod, hD, t, hkl, hk1, hk2, hG, hV⟩
    have hk : t.length = c.length := by
      rcases Nat.lt_or_ge t.length c.length with h | h
      · have h1 := hk2 t.length c[t.length] (Nat.le_refl _) (List.getElem?_eq_getElem h)
        rw [hL c[t.length] (by simpa using List.all_eq_true.1 hcs _ (List.getElem_mem h))] at h1
        cases h1
      · omega
    have hsl : ss.length = ops.size := by
      unfold okSlots at hss
      rw [Bool.and_eq_true] at hss
      simpa using hss.1
    refine fin vs t w hl hk hmod hG fun p v hv => hV p v (hL p ?_) hv
    have := (List.getElem?_eq_some_iff.1 hv).1
    omega

variable {i : Nat} {o : Oper} {a : Act} {w w' : World} {l : List GPred} {c : List Nat} {G : List Value → World → Prop} {t : List Value}
theorem jg_run (hc : c.contains i = false) (ho : ops[i]? = some o) (hw : Region.wanted o (yielded ops a.tmps) = true) {v : Value} (hr : (execOp a.eval o).run P w = .ok (.value v) w') (hm : R t.length w w') (hv : (l.getD i ga) t v w') : wpOp P ops Q i (JG S R l c G i o t a w) a w := by
  refine wpOp_step ho fun K' hK' => ?_
  rw [if_pos hw]
  unfold Oper.wp
  rw [hr]
  exact hK' _ _ ⟨v, rfl, (fun h => by rw [hc] at h; cases h), fun _ => ⟨hm, hv⟩⟩
theorem jg_skip (hR : ∀ k w w', Mod (fun _ => False) w w' → R k w w') (hc : c.contains i = false) (ho : ops[i]? = some o) (hw : Region.wanted o (yielded ops a.tmps) = false) (hv : (l.getD i ga) t undef w) : wpOp P ops Q i (JG S R l c G i o t a w) a w := by
  refine wpOp_step ho fun K' hK' => ?_
  rw [if_neg (by rw [hw]; decide)]
  exact hK' _ _ ⟨undef, rfl, (fun h => by rw [hc] at h; cases h), fun _ => ⟨hR _ _ _ (Mod.refl _ _), hv⟩⟩
theorem jg_call (hc : c.contains i = false) (ho : ops[i]? = some o) (hw : Region.wanted o (yielded ops a.tmps) = true) {f : FuncId} {args : Array Value} {post : Ending → World → Prop} (hr : (execOp a.eval o).run P w = .ok (.enter f args) w) (hcl : Calls P f args w post)
    (hp : ∀ e w', post e w' → ∃ v, e = .returned v ∧ R t.length w w' ∧ (l.getD i ga) t v w') : wpOp P ops Q i (JG S R l c G i o t a w) a w := by
  refine wpOp_step ho fun K' hK' => ?_
  rw [if_pos hw]
  unfold Oper.wp
  rw [hr]
  exact hcl.mono fun e w' he => by
    obtain ⟨v, rfl, h1, h2⟩ := hp e w' he
    exact hK' _ _ ⟨v, rfl, (fun h => by rw [hc] at h; cases h), fun _ => ⟨h1, h2⟩⟩
/-- the chain's: a run that answers -/
theorem jc_run (hc : c.contains i = true) (ho : ops[i]? = some o) (hw : Region.wanted o (yielded ops a.tmps) = true) {v : Value} (hr : (execOp a.eval o).run P w = .ok (.value v) w') (hm : Mod (S t.length) w w') (hv : (l.getD i ga) (t ++ [v]) v w') (hg : G (t ++ [v]) w') : wpOp P ops Q i (JG S R l c G i o t a w) a w := by
  refine wpOp_step ho fun K' hK' => ?_
  rw [if_pos hw]
  unfold Oper.wp
  rw [hr]
  exact hK' _ _ ⟨v, rfl, (fun _ => ⟨hm, hv, hg⟩), fun h => by rw [hc] at h; cases h⟩
theorem jc_turn (hc : c.contains i = true) (ho : ops[i]? = some o) (hw : Region.wanted o (yielded ops a.tmps) = true) (hr : (execOp a.eval o).run P w = .ok .skip w') (hm : Mod (S t.length) w w') (hv : (l.getD i ga) (t ++ [undef]) undef w') (hg : G (t ++ [undef]) w') : wpOp P ops Q i (JG S R l c G i o t a w) a w := by
  refine wpOp_step ho fun K' hK' => ?_
  rw [if_pos hw]
  unfold Oper.wp
  rw [hr]
  exact hK' _ _ ⟨undef, rfl, (fun _ => ⟨hm, hv, hg⟩), fun h => by rw [hc] at h; cases h⟩
theorem jc_skip (hc : c.contains i = true) (ho : ops[i]? = some o) (hw : Region.wanted o (yielded ops a.tmps) = false) (hv : (l.getD i ga) (t ++ [undef]) undef w) (hg : G (t ++ [undef]) w) : wpOp P ops Q i (JG S R l c G i o t a w) a w := by
  refine wpOp_step ho fun K' hK' => ?_
  rw [if_neg (by rw [hw]; decide)]
  exact hK' _ _ ⟨undef, rfl, (fun _ => ⟨Mod.refl _ _, hv, hg⟩), fun h => by rw [hc] at h; cases h⟩
theorem jc_call (hc : c.contains i = true) (ho : ops[i]? = some o) (hw : Region.wanted o (yielded ops a.tmps) = true) {f : FuncId} {args : Array Value} {post : Ending → World → Prop} (hr : (execOp a.eval o).run P w = .ok (.enter f args) w) (hcl : Calls P f args w post)
    (hp : ∀ e w', post e w' → ∃ v, e = .returned v ∧ Mod (S t.length) w w' ∧ (l.getD i ga) (t ++ [v]) v w' ∧ G (t ++ [v]) w') : wpOp P ops Q i (JG S R l c G i o t a w) a w := by
  refine wpOp_step ho fun K' hK' => ?_
  rw [if_pos hw]
  unfold Oper.wp
  rw [hr]
  exact hcl.mono fun e w' he => by
    obtain ⟨v, rfl, h1, h2, h3⟩ := hp e w' he
    exact hK' _ _ ⟨v, rfl, (fun _ => ⟨h1, h2, h3⟩), fun h => by rw [hc] at h; cases h⟩

def Still : Nat → World → World → Prop := fun _ w w' => Mod (fun _ => False) w w'
/-- w' is w but for the marks of new rows of type T8 (and new blocks) -/
structure Marked (B : Nat) (T8 : TypeId) (w w' : World) : Prop where
  os : w'.os = w.os
  tape : w'.tape = w.tape
  output : w'.output = w.output
  size : w.heap.size ≤ w'.heap.size
  block : ∀ k, k < w.heap.size → w'.heap[k]? = w.heap[k]? ∨ (B ≤ k ∧ ∃ C m, w.heap[k]? = some (.cells C T8 m) ∧ w'.heap[k]? = some (.cells C T8 (C.size, C.size + 1)))
/-- rows may be marked as long as no more than K of the chain are done -/
def StillM (B : Nat) (T8 : TypeId) (K : Nat) : Nat → World → World → Prop := fun k w w' => Mod (fun _ => False) w w' ∨ (k ≤ K ∧ Marked B T8 w w')
theorem stillM_still {B : Nat} {T8 : TypeId} {K : Nat} : ∀ k w w', Mod (fun _ => False) w w' → StillM B T8 K k w w' := fun _ _ _ h => Or.inl h
theorem stillM_T {B : Nat} {T8 : TypeId} {K : Nat} {w0 : World} : ∀ k w w', Mod (fun j => B ≤ j) w0 w → StillM B T8 K k w w' → Mod (fun j => B ≤ j) w0 w' := by
  intro k w w' hm h
  rcases h with h | ⟨-, h⟩
  · exact hm.trans h (fun _ _ h => h.elim)
  · refine ⟨h.os.trans hm.os, h.tape.trans hm.tape, h.output.trans hm.output, Nat.le_trans hm.size h.size, fun j hj hn => ?_⟩
    rcases h.block j (Nat.lt_of_lt_of_le hj hm.size) with h1 | ⟨h1, -⟩
    · exact h1.trans (hm.block j hj hn)
    · exact absurd h1 hn
/-- a literal's row, as long as no more than K of the chain are done -/
def litG (B : Nat) (T8 : TypeId) (K : Nat) (C : Array Value) : GPred := fun t v w => t.length ≤ K → ∃ g, v = .slice (some ⟨g, 0, none⟩) C.size C.size ∧ B ≤ g ∧ ∃ m, (m = (0, 0) ∨ m = (C.size, C.size + 1)) ∧ w.heap[g]? = some (.cells C T8 m)
theorem litG_stable {B : Nat} {T8 : TypeId} {K : Nat} {C : Array Value} {S : Nat → Nat → Prop} (hS : ∀ k, k < K → ∀ j, ¬ S k j) : StableG S (StillM B T8 K) (litG B T8 K C) where
  still t v w w' h hr := by
    intro hk
    obtain ⟨g, h1, h2, m, h0, h3⟩ := h hk
    rcases hr with hr | ⟨-, hr⟩
    · exact ⟨g, h1, h2, m, h0, hr.obj h3 (fun h => h)⟩
    · rcases hr.block g (Array.getElem?_eq_some_iff.1 h3).1 with h4 | ⟨-, C', m', h4, h5⟩
      · exact ⟨g, h1, h2, m, h0, h4.trans h3⟩
      · rw [h3] at h4
        cases h4
        exact ⟨g, h1, h2, _, Or.inr rfl, h5⟩
  on t u v w w' h hm := by
    intro hk
    rw [List.length_append] at hk
    simp at hk
    obtain ⟨g, h1, h2, m, h0, h3⟩ := h (by omega)
    exact ⟨g, h1, h2, m, h0, hm.obj h3 (hS _ (by omega) g)⟩

variable {a : Act} {o : Oper} {w w' : World}
theorem ex_lit {ts T8 : TypeId} {n : Nat} {parts : Array (Nat × Operand)} (ho : o.op = .buildSlice ts n parts) (hu : P.underlying ts = some (.slice T8)) (hie : (P.info? T8).map (fun i => (i.size, i.zero)) = some (1, some (.int .u8 0))) (hn : n ≠ 0 ∧ n ≤ 1000) {C : Array Value}
    (hf : Instr.fill (fun i => some (i * 1, 1)) ((Array.range (n * 1)).map (#[Value.int .u8 0][· % 1]!)) (parts.map fun (i, x) => (i, a.eval x)).toList = some C) :
    (execOp a.eval o).run P w = .ok (.value (.slice (some ⟨w.heap.size, 0, none⟩) n n)) (w.alloc (.cells C T8)) := by
  cases hq : P.info? T8 with
  | none => rw [hq] at hie; cases hie
  | some ie =>
    rw [hq] at hie
    have e := Option.some.inj hie
    have e1 : ie.size = 1 := congrArg Prod.fst e
    have e2 : ie.zero = some (.int .u8 0) := congrArg Prod.snd e
    have hr := run_buildSlice (P := P) w ts T8 n (parts.map fun (i, x) => (i, a.eval x)) C ie (.int .u8 0) hu hq e2 (by rw [e1]; omega) (by rw [e1]; omega) (by rw [e1]; exact hf)
    unfold execOp
    simp only [ho, Sem.run_bind, hr, Result.andThen_ok, Sem.run_pure]
theorem ex_mark {ts T8 : TypeId} {x : Operand} {B g n : Nat} {C : Array Value} {m : Nat × Nat} (ho : o.op = .convert ts ts x) (hu : P.underlying ts = some (.slice T8)) (he : P.underlying T8 = some (.int .u8)) (hm : m = (0, 0) ∨ m = (C.size, C.size + 1)) (hB : B ≤ g)
    (hb : w.heap[g]? = some (.cells C T8 m)) (hx : a.eval x = .slice (some ⟨g, 0, none⟩) n n) :
    ∃ w', (execOp a.eval o).run P w = .ok (.value (.slice (some ⟨g, 0, none⟩) n n)) w' ∧ Marked B T8 w w' ∧ w'.heap[g]? = some (.cells C T8 (C.size, C.size + 1)) := by
  have hsh : w.shape? g = some (T8, C.size) := by unfold World.shape?; rw [hb]
  have hlt := (Array.getElem?_eq_some_iff.1 hb).1
  have hblk : (w.freeze ⟨g, C.size, none⟩ 1).heap[g]? = some (.cells C T8 (C.size, C.size + 1)) := by
    unfold World.freeze
    rw [if_neg (by decide)]
    rw [Array.getElem?_modify, if_pos rfl, hb]
    rcases hm with rfl | rfl
    · rfl
    · simp
  refine ⟨w.freeze ⟨g, C.size, none⟩ 1, ?_, ⟨rfl, rfl, rfl, by unfold World.freeze; rw [if_neg (by decide)]; simp, fun k hk => ?_⟩, hblk⟩
  · unfold execOp
    simp [ho, hx, convert, run_underlying hu, run_underlying he, markStringish, hsh]
  · by_cases e : k = g
    · subst e
      exact Or.inr ⟨hB, C, m, hb, hblk⟩
    · refine Or.inl ?_
      unfold World.freeze
      rw [if_neg (by decide)]
      rw [Array.getElem?_modify, if_neg (fun h => e h.symm)]
theorem jg_mark {i : Nat} {l : List GPred} {c : List Nat} {G : List Value → World → Prop} {t : List Value} {ts T8 : TypeId} {x : Operand} {B g n : Nat} {C : Array Value} {m : Nat × Nat} (hc : c.contains i = false) (hop : ops[i]? = some o) (hw : Region.wanted o (yielded ops a.tmps) = true)
    (ho : o.op = .convert ts ts x) (hu : P.underlying ts = some (.slice T8)) (he : P.underlying T8 = some (.int .u8)) (hm : m = (0, 0) ∨ m = (C.size, C.size + 1)) (hB : B ≤ g) (hb : w.heap[g]? = some (.cells C T8 m)) (hx : a.eval x = .slice (some ⟨g, 0, none⟩) n n)
    (hR : ∀ w', Marked B T8 w w' → R t.length w w') (hv : ∀ w', w'.heap[g]? = some (.cells C T8 (C.size, C.size + 1)) → (l.getD i ga) t (.slice (some ⟨g, 0, none⟩) n n) w') : wpOp P ops Q i (JG S R l c G i o t a w) a w := by
  obtain ⟨w', hr, h1, h2⟩ := ex_mark (P := P) ho hu he hm hB hb hx
  exact jg_run hc hop hw hr (hR _ h1) (hv _ h2)
end
/-- a state that goes by how many of the chain are done -/
def ByLen (St : Nat → List Value → World → Prop) : List Value → World → Prop := fun t w => St t.length t w
section
variable {St : Nat → List Value → World → Prop} {t : List Value} {w : World} {v : Value} {k : Nat}
theorem ByLen.at (h : ByLen St t w) (hl : t.length = k) : St k t w := by subst hl; exact h
theorem ByLen.on (hl : t.length = k) (h : St (k + 1) (t ++ [v]) w) : ByLen St (t ++ [v]) w := by
  show St (t ++ [v]).length _ _
  rw [List.length_append, hl]
  exact h
theorem ByLen.still (h : ∀ k t w w', St k t w → Mod (fun _ => False) w w' → St k t w') : ∀ t w w', ByLen St t w → Still t.length w w' → ByLen St t w' := fun _ _ _ h1 h2 => h _ _ _ _ h1 h2
end
end Go.Gv
