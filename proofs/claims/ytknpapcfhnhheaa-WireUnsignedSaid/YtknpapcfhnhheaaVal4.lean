/- A region in which, besides a chain, new variables are made and written whole (x, y := f(), g()). No program here. -/
import Derived.Test.YtknpapcfhnhheaaBld
set_option linter.unusedVariables false
namespace Go.Gv
open Go Go.RowKit

/-- a new variable of the region: the operation that makes it, the one that writes it, its type, its zero, what is written -/
structure AlRow where
  a : Nat
  s : Nat
  T : TypeId
  z : List Value
  c : List Value
section
variable {P : Program} {ops : Array Oper} {Q : Exit → Act → World → Prop}
def alDist (al : List AlRow) : Bool := decide ((al.map (·.a) ++ al.map (·.s)).Nodup)
/-- what is to be shown of an operation that makes one -/
def MakesA (P : Program) (r : AlRow) (o : Oper) : Prop := o.guard = none ∧ o.op = .alloc r.T ∧ (P.info? r.T).bind (·.zero) = some (.agg r.z.toArray) ∧ r.z.length = r.c.length ∧ (∀ u ∈ r.c, u.oneCell' = true) ∧ (P.info? r.T).map (·.size) = some r.c.length
def StepA (P : Program) (ops : Array Oper) (Q : Exit → Act → World → Prop) (a0 : Act) (w0 : World) (n : Nat) (ss : List Nat) (T : Nat → Prop) (S : Nat → Nat → Prop) (R : Nat → World → World → Prop) (l : List GPred) (c : List Nat) (G : List Value → World → Prop) (al : List AlRow) (i : Nat) (o : Oper) : Prop :=
  (∀ r ∈ al, r.a = i → MakesA P r o) ∧
  (∀ r ∈ al, r.s = i → o.guard = none ∧ (∃ sa y, (ops[r.a]?).bind (·.dst) = some sa ∧ sa < n ∧ o.op = .store r.T (.tmp sa) y ∧ (c.all fun x => (clo ops ops.size (afterOf ops i)).contains x) = true ∧ (clo ops ops.size (afterOf ops i)).contains r.a = true ∧
    ∀ (t : List Value) (a : Act) (w : World), Mod T w0 w → (∀ t, t ∉ ss → a.eval (.tmp t) = a0.eval (.tmp t)) → (∀ e ∈ o.after, Region.binds .any e = true → ∀ s, (ops[e.on]?).bind (·.dst) = some s → (l.getD e.on ga) t (a.eval (.tmp s)) w) → G t w → (a.eval y).cells = r.c.toArray)) ∧
  ((∀ r ∈ al, r.a ≠ i ∧ r.s ≠ i) → StepG P ops Q a0 w0 n ss T S R l c G i o)
/-- the new variables: made ones stand in blocks of their own -/
structure AlInv (w0 : World) (al : List AlRow) (L : Nat → Bool) (vs : List Value) (w : World) : Prop where
  at_ : ∀ r ∈ al, L r.a = true → ∃ q, vs[r.a]? = some (.pointer (some ⟨q, 0, none⟩)) ∧ w0.heap.size ≤ q ∧ Cs w q (if L r.s then r.c.toArray else r.z.toArray) r.T
  ne : ∀ r ∈ al, ∀ r' ∈ al, r.a ≠ r'.a → L r.a = true → L r'.a = true → vs[r.a]? ≠ vs[r'.a]?
theorem AlInv.start (w0 : World) (al : List AlRow) (vs : List Value) (w : World) : AlInv w0 al (fun _ => false) vs w := ⟨(fun _ _ h => by cases h), (fun _ _ _ _ _ h => by cases h)⟩
theorem AlInv.other {w0 : World} {al : List AlRow} {L : Nat → Bool} {vs : List Value} {w w' : World} (h : AlInv w0 al L vs w) {i : Nat} {v : Value} (hi : ∀ r ∈ al, r.a ≠ i ∧ r.s ≠ i) (hc : ∀ r ∈ al, ∀ q c, w0.heap.size ≤ q → Cs w q c r.T → Cs w' q c r.T) : AlInv w0 al (upd L i) (vs.set i v) w' := by
  have hu : ∀ r ∈ al, upd L i r.a = L r.a ∧ upd L i r.s = L r.s := fun r hr => by unfold upd; rw [if_neg (hi r hr).1, if_neg (hi r hr).2]; exact ⟨rfl, rfl⟩
  have hv : ∀ r ∈ al, (vs.set i v)[r.a]? = vs[r.a]? := fun r hr => List.getElem?_set_ne (Ne.symm (hi r hr).1)
  refine ⟨fun r hr hL => ?_, fun r hr r' hr' hne h1 h2 => ?_⟩
  · rw [(hu r hr).1] at hL
    obtain ⟨q, e1, e2, e3⟩ := h.at_ r hr hL
    rw [hv r hr, (hu r hr).2]
    exact ⟨q, e1, e2, hc r hr _ _ e2 e3⟩
  · rw [(hu r hr).1] at h1
    rw [(hu r' hr').1] at h2
    rw [hv r hr, hv r' hr']
    exact h.ne r hr r' hr' hne h1 h2
theorem al_uniq {al : List AlRow} (h : alDist al = true) : (∀ r ∈ al, ∀ r' ∈ al, r.a = r'.a → r = r') ∧ (∀ r ∈ al, ∀ r' ∈ al, r.s = r'.s → r = r') ∧ (∀ r ∈ al, ∀ r' ∈ al, r.a ≠ r'.s) := by
  unfold alDist at h
  have h := of_decide_eq_true h
  obtain ⟨h1, h2, h3⟩ := List.nodup_append.1 h
  refine ⟨fun r hr r' hr' e => ?_, fun r hr r' hr' e => ?_, fun r hr r' hr' => h3 _ (List.mem_map.2 ⟨r, hr, rfl⟩) _ (List.mem_map.2 ⟨r', hr', rfl⟩)⟩
  · obtain ⟨j, hj⟩ := List.getElem?_of_mem hr
    obtain ⟨j', hj'⟩ := List.getElem?_of_mem hr'
    have e1 : (al.map (·.a))[j]? = some r.a := by rw [List.getElem?_map, hj]; rfl
    have e2 : (al.map (·.a))[j']? = some r.a := by rw [List.getElem?_map, hj', e]; rfl
    have := (List.getElem?_inj (List.getElem?_eq_some_iff.1 e1).1 h1).1 (e1.trans e2.symm)
    subst this
    exact Option.some.inj (hj.symm.trans hj')
  · obtain ⟨j, hj⟩ := List.getElem?_of_mem hr
    obtain ⟨j', hj'⟩ := List.getElem?_of_mem hr'
    have e1 : (al.map (·.s))[j]? = some r.s := by rw [List.getElem?_map, hj]; rfl
    have e2 : (al.map (·.s))[j']? = some r.s := by rw [List.getElem?_map, hj', e]; rfl
    have := (List.getElem?_inj (List.getElem?_eq_some_iff.1 e1).1 h2).1 (e1.trans e2.symm)
    subst this
    exact Option.some.inj (hj.symm.trans hj')

theorem wp_region_A {d : Bool} {id : Nat} {a0 : Act} {w0 : World} (n : Nat) (hn : a0.tmps.size = n) (hm : P.follows .mixedOrders = true) (hac : backward ops = true) (ss : List Nat) (hss : okSlots ops n ss = true) (hnd : ss.Nodup)
    (T : Nat → Prop) (S : Nat → Nat → Prop) (hT : ∀ k j, S k j → T j) (R : Nat → World → World → Prop) (hR : ∀ k w w', Mod (fun _ => False) w w' → R k w w') (hRT : ∀ k w w', Mod T w0 w → R k w w' → Mod T w0 w') (l : List GPred) (stable : AllStableG S R l) (c : List Nat) (hlk : linked ops c = true) (hcn : c.Nodup) (hcs : (c.all fun i => decide (i < ops.size)) = true)
    (G : List Value → World → Prop) (Gst : ∀ t w w', G t w → R t.length w w' → G t w') (g0 : G [] w0)
    (al : List AlRow) (hal : alDist al = true) (hac2 : ∀ r ∈ al, c.contains r.a = false ∧ c.contains r.s = false) (hS : ∀ k j, S k j → j < w0.heap.size) (hTn : ∀ j, w0.heap.size ≤ j → T j)
    (hRA : ∀ k w w', R k w w' → w.heap.size ≤ w'.heap.size ∧ ∀ r ∈ al, ∀ q c, Cs w q c r.T → Cs w' q c r.T)
    (hGA : ∀ t w w', t.length = c.length → G t w → Mod (fun k => w0.heap.size ≤ k) w w' → G t w') (hVA : ∀ p t v w w', t.length = c.length → (l.getD p ga) t v w → Mod (fun k => w0.heap.size ≤ k) w w' → (l.getD p ga) t v w')
    (hals : ∀ r ∈ al, r.a < ops.size ∧ r.s < ops.size) (hga : ∀ r ∈ al, ∀ t v w, (l.getD r.a ga) t v w ∧ (l.getD r.s ga) t v w)
    (step : Each (StepA P ops Q a0 w0 n ss T S R l c G al) 0 ops.toList)
    (fin : ∀ vs t w, vs.length = ss.length → t.length = c.length → Mod T w0 w → G t w → (∀ p v, vs[p]? = some v → (l.getD p ga) t v w) → (∀ r ∈ al, ∃ q, vs[r.a]? = some (.pointer (some ⟨q, 0, none⟩)) ∧ w0.heap.size ≤ q ∧ Cs w q r.c.toArray r.T) → (∀ r ∈ al, ∀ r' ∈ al, r.a ≠ r'.a → vs[r.a]? ≠ vs[r'.a]?) → Q .normal (putAll a0 ss vs) w) : (Code.region id ops d).wp P Q a0 w0 := by
  have hinj : ∀ (j k i : Nat), c[j]? = some i → c[k]? = some i → j = k := by
    intro j k i h1 h2
    exact (List.getElem?_inj (List.getElem?_eq_some_iff.1 h1).1 hcn).1 (h1.trans h2.symm)
  refine wp_region_both hm (backward_spec hac) ss (fun L vs w => Mod T w0 w ∧ (∀ x, ops.size ≤ x → L x = false) ∧ Down ops L ∧ ∃ t : List Value, t.length ≤ c.length ∧ (∀ j p, j < t.length → c[j]? = some p → L p = true) ∧ (∀ j p, t.length ≤ j → c[j]? = some p → L p = false) ∧ G t w ∧ (∀ p v, L p = true → vs[p]? = some v → (l.getD p ga) t v w) ∧ AlInv w0 al L vs w)
    ⟨Mod.refl _ _, (fun _ _ => rfl), (fun i h => by cases h), [], Nat.zero_le _, (fun j p h => by simp at h), (fun _ _ _ _ => rfl), g0, (fun p v h => by cases h), AlInv.start w0 al _ _⟩
    ⟨(Mod.refl _ _).drew, (fun _ _ => rfl), (fun i h => by cases h), [], Nat.zero_le _, (fun j p h => by simp at h), (fun _ _ _ _ => rfl), Gst _ _ _ g0 (hR _ _ _ (Mod.refl _ _).drew), (fun p v h => by cases h), AlInv.start w0 al _ _⟩ ?_ ?_
  · rintro i o ho L vs w hL hd hl ⟨hmod, hLout, hD, t, hkl, hk1, hk2, hG, hV, hA⟩
    have hst := Each.get _ 0 step i o (by simpa using ho)
    rw [Nat.zero_add] at hst
    obtain ⟨s, hs, hds⟩ := okSlots_at hss ho
    have haf : ∀ x ∈ afterOf ops i, L x = true := by
      intro x hx
      obtain ⟨o', ho', e, he, hb, rfl⟩ := mem_afterOf.1 hx
      rw [ho] at ho'
      cases ho'
      exact hd e he hb
    have hDn : Down ops (upd L i) := by
      intro j hj x hx
      unfold upd at hj ⊢
      by_cases e : x = i
      · rw [if_pos e]
      · rw [if_neg e]
        by_cases e2 : j = i
        · subst e2; exact haf x hx
        · rw [if_neg e2] at hj; exact hD j hj x hx
    have hLn : ∀ x, ops.size ≤ x → upd L i x = false := fun x hx => by
      have hi := (Array.getElem?_eq_some_iff.1 ho).1
      unfold upd
      rw [if_neg (by omega)]
      exact hLout x hx
    have hGk : ∀ k' : Nat, c[k']? = some i → k' = t.length := by
      intro k' hk'
      have hall := linked_all hD hlk k' i hk' haf
      rcases Nat.lt_trichotomy k' t.length with h | h | h
      · have := hk1 k' i h hk'; rw [hL] at this; cases this
      · exact h
      · have hlt : t.length < c.length := by have := (List.getElem?_eq_some_iff.1 hk').1; omega
        have := hall t.length c[t.length] h (List.getElem?_eq_getElem hlt)
        rw [hk2 t.length c[t.length] (Nat.le_refl _) (List.getElem?_eq_getElem hlt)] at this
        cases this
    have hub : ∀ k q, c[k]? = some q → (clo ops ops.size (afterOf ops q)).contains i = true → t.length ≤ k := by
      intro k q hq hc
      rcases Nat.lt_or_ge k t.length with h | h
      · have h1 := hk1 k q h hq
        have h2 := clo_done hD _ _ (fun x hx => hD q h1 x hx) i (by simpa using hc)
        rw [hL] at h2
        cases h2
      · exact h
    have hlt : i < vs.length := by rw [hl]; exact (List.getElem?_eq_some_iff.1 hs).1
    have hput : ∀ v, (putAll a0 ss vs).put o.dst v = putAll a0 ss (vs.set i v) := by
      intro v
      have e1 := putAll_put _ _ a0 i s v hnd hl hs
      rcases hds with ⟨h1, h2⟩ | ⟨h1, h2⟩
      · rw [h1]; exact e1
      · rw [h1, ← e1, put_far _ (by rw [putAll_size, hn]; exact h2)]; rfl
    have hpred : ∀ e ∈ o.after, Region.binds .any e = true → ∀ s', (ops[e.on]?).bind (·.dst) = some s' → (l.getD e.on ga) t ((putAll a0 ss vs).eval (.tmp s')) w := by
      intro e he hb s' hs'
      have hLe := hd e he hb
      cases hoe : ops[e.on]? with
      | none => rw [hoe] at hs'; cases hs'
      | some o2 =>
        rw [hoe] at hs'
        obtain ⟨s2, hs2, hds2⟩ := okSlots_at hss hoe
        rcases hds2 with ⟨h1, h2⟩ | ⟨h1, h2⟩
        · have e3 : s2 = s' := Option.some.inj (h1.symm.trans hs')
          subst e3
          have hvl : e.on < vs.length := by rw [hl]; exact (List.getElem?_eq_some_iff.1 hs2).1
          rw [eval_in a0 ss vs e.on s2 vs[e.on] hnd hl hs2 (by rw [hn]; exact h2) (List.getElem?_eq_getElem hvl)]
          exact hV _ _ hLe (List.getElem?_eq_getElem hvl)
        · have : (none : Option Nat) = some s' := h1.symm.trans hs'
          cases this
    obtain ⟨hu1, hu2, hu3⟩ := al_uniq hal
    have hwant : o.guard = none → Region.wanted o (yielded ops (putAll a0 ss vs).tmps) = true := fun h => by simp [Region.wanted, h]
    have hnc : ∀ {p : Nat}, c.contains i = false → ∀ j, c[j]? = some p → ¬ p = i := fun hci j hp e => by
      subst e
      have : _ ∈ c := List.mem_of_getElem? hp
      simp [this] at hci
    by_cases hma : ∃ r ∈ al, r.a = i
    · obtain ⟨r, hr, rfl⟩ := hma
      obtain ⟨m0, m1, m2, m3, m4, m5⟩ := hst.1 r hr rfl
      obtain ⟨info, hi, hz⟩ := (show ∃ info, P.info? r.T = some info ∧ info.zero = some (.agg r.z.toArray) by
        cases hq : P.info? r.T with
        | none => rw [hq] at m2; cases m2
        | some i => rw [hq] at m2; exact ⟨i, rfl, m2⟩)
      have hrun := ex_alloc (P := P) (a := putAll a0 ss vs) (w := w) m1 hi hz
      have hmal : Mod (fun _ => False) w (w.alloc (.cells r.z.toArray r.T)) := (Mod.refl _ _).alloc _
      have hci := (hac2 r hr).1
      refine wpOp_step ho fun K' hK' => ?_
      rw [if_pos (hwant m0)]
      unfold Oper.wp
      rw [hrun]
      refine hK' _ _ ⟨vs.set r.a _, hput _, by simpa using hl, hmod.trans hmal (fun _ _ h => h.elim), hLn, hDn, t, hkl, fun j p hj hp => ?_, fun j p hj hp => ?_, Gst _ _ _ hG (hR _ _ _ hmal), fun p u hp hu => ?_, ⟨fun r' hr' hL' => ?_, fun r1 hr1 r2 hr2 hne h1 h2 => ?_⟩⟩
      · unfold upd; rw [if_neg (hnc hci j hp)]; exact hk1 j p hj hp
      · unfold upd; rw [if_neg (hnc hci j hp)]; exact hk2 j p hj hp
      · by_cases e : p = r.a
        · subst e; exact (hga r hr _ _ _).1
        · rw [List.getElem?_set_ne (Ne.symm e)] at hu
          unfold upd at hp
          rw [if_neg e] at hp
          exact (AllStableG.get l stable p).still _ _ _ _ (hV p u hp hu) (hR _ _ _ hmal)
      · have hs1 : upd L r.a r'.s = L r'.s := by unfold upd; rw [if_neg (fun e => hu3 r hr r' hr' e.symm)]
        by_cases e : r'.a = r.a
        · obtain rfl := hu1 r' hr' r hr e
          refine ⟨w.heap.size, by simp [hlt], hmod.size, ?_⟩
          rw [hs1]
          have : L r'.s = false := by
            cases hls : L r'.s with
            | false => rfl
            | true =>
              have hos : ∃ o', ops[r'.s]? = some o' := by
                have h9 := Each.get _ 0 step
                cases hq : ops[r'.s]? with
                | some o' => exact ⟨o', rfl⟩
                | none => exact absurd hls (by rw [hLout r'.s (by simpa using hq)]; decide)
              obtain ⟨o', ho'⟩ := hos
              have h9 := Each.get _ 0 step r'.s o' (by simpa using ho')
              rw [Nat.zero_add] at h9
              obtain ⟨-, sa, y, -, -, -, -, hcl, -⟩ := h9.2.1 r' hr' rfl
              have := clo_done hD _ _ (fun x hx => hD r'.s hls x hx) r'.a (by simpa using hcl)
              rw [hL] at this
              cases this
          rw [this]
          exact Cs.new _ _ _
        · have hL2 : L r'.a = true := by unfold upd at hL'; rwa [if_neg e] at hL'
          obtain ⟨q, e1, e2, e3⟩ := hA.at_ r' hr' hL2
          refine ⟨q, by rw [List.getElem?_set_ne (Ne.symm e)]; exact e1, e2, ?_⟩
          rw [hs1]
          exact e3.alloc _
      · have key : ∀ r' ∈ al, r'.a ≠ r.a → L r'.a = true → vs[r'.a]? ≠ some (.pointer (some ⟨w.heap.size, 0, none⟩)) := by
          intro r' hr' hne' hL' he
          obtain ⟨q, e1, e2, e3⟩ := hA.at_ r' hr' hL'
          rw [e1] at he
          have := e3.lt
          cases he
          omega
        by_cases e1 : r1.a = r.a
        · have e2 : r2.a ≠ r.a := fun e => hne (e1.trans e.symm)
          rw [e1, List.getElem?_set_self hlt, List.getElem?_set_ne (Ne.symm e2)]
          unfold upd at h2
          rw [if_neg e2] at h2
          exact fun he => key r2 hr2 e2 h2 he.symm
        · by_cases e2 : r2.a = r.a
          · rw [e2, List.getElem?_set_self hlt, List.getElem?_set_ne (Ne.symm e1)]
            unfold upd at h1
            rw [if_neg e1] at h1
            exact key r1 hr1 e1 h1
          · rw [List.getElem?_set_ne (Ne.symm e1), List.getElem?_set_ne (Ne.symm e2)]
            unfold upd at h1 h2
            rw [if_neg e1] at h1
            rw [if_neg e2] at h2
            exact hA.ne r1 hr1 r2 hr2 hne h1 h2
    by_cases hsa : ∃ r ∈ al, r.s = i
    · obtain ⟨r, hr, rfl⟩ := hsa
      obtain ⟨m0, sa, y, hsl, hsn, hop, hall, hcl, hval⟩ := hst.2.1 r hr rfl
      have hci := (hac2 r hr).2
      have hLa : L r.a = true := clo_done hD _ _ (fun x hx => haf x hx) r.a (by simpa using hcl)
      obtain ⟨q, e1, e2, e3⟩ := hA.at_ r hr hLa
      rw [if_neg (by rw [hL]; decide)] at e3
      have htl : t.length = c.length := by
        rcases Nat.lt_or_ge t.length c.length with h | h
        · have h1 := hk2 t.length c[t.length] (Nat.le_refl _) (List.getElem?_eq_getElem h)
          have h2 := clo_done hD _ _ (fun x hx => haf x hx) c[t.length] (by simpa using List.all_eq_true.1 hall _ (List.getElem_mem h))
          rw [h1] at h2
          cases h2
        · omega
      obtain ⟨oa, hoa⟩ : ∃ oa, ops[r.a]? = some oa := by
        cases hq : ops[r.a]? with
        | none => rw [hq] at hsl; cases hsl
        | some x => exact ⟨x, rfl⟩
      have hAa := Each.get _ 0 step r.a oa (by simpa using hoa)
      rw [Nat.zero_add] at hAa
      obtain ⟨-, -, -, m3, m4, m5⟩ := hAa.1 r hr rfl
      have hex : (putAll a0 ss vs).eval (.tmp sa) = .pointer (some ⟨q, 0, none⟩) := by
        obtain ⟨s2, hs2, hds2⟩ := okSlots_at hss hoa
        rw [hoa] at hsl
        rcases hds2 with ⟨h1, h2⟩ | ⟨h1, h2⟩
        · have e9 : s2 = sa := Option.some.inj (h1.symm.trans hsl)
          subst e9
          exact eval_in a0 ss vs r.a s2 _ hnd hl hs2 (by rw [hn]; exact h2) e1
        · have : (none : Option Nat) = some sa := h1.symm.trans hsl
          cases this
      have hrun := ex_storeA (P := P) (a := putAll a0 ss vs) (w := w) hop e3 (off := 0) m5 m4 (by simp [m3]) hex (hval t _ w hmod (fun t ht => eval_out _ _ _ _ ht) hpred hG)
      rw [lay_whole _ _ (by simpa using m3)] at hrun
      have hmst : Mod (fun k => k = q) w (w.setRow q r.c.toArray) := setRow_Mod
      have hmst2 : Mod (fun k => w0.heap.size ≤ k) w (w.setRow q r.c.toArray) := hmst.mono (fun k _ h => by omega)
      refine wpOp_step ho fun K' hK' => ?_
      rw [if_pos (hwant m0)]
      unfold Oper.wp
      rw [hrun]
      refine hK' _ _ ⟨vs.set r.s _, hput _, by simpa using hl, hmod.trans hmst2 (fun j _ h => hTn j h), hLn, hDn, t, hkl, fun j p hj hp => ?_, fun j p hj hp => ?_, hGA _ _ _ htl hG hmst2, fun p u hp hu => ?_, ⟨fun r' hr' hL' => ?_, fun r1 hr1 r2 hr2 hne h1 h2 => ?_⟩⟩
      · unfold upd; rw [if_neg (hnc hci j hp)]; exact hk1 j p hj hp
      · unfold upd; rw [if_neg (hnc hci j hp)]; exact hk2 j p hj hp
      · by_cases e : p = r.s
        · subst e; exact (hga r hr _ _ _).2
        · rw [List.getElem?_set_ne (Ne.symm e)] at hu
          unfold upd at hp
          rw [if_neg e] at hp
          exact hVA p _ _ _ _ htl (hV p u hp hu) hmst2
      · have ha1 : r'.a ≠ r.s := hu3 r' hr' r hr
        have hL2 : L r'.a = true := by unfold upd at hL'; rwa [if_neg ha1] at hL'
        obtain ⟨q', e1', e2', e3'⟩ := hA.at_ r' hr' hL2
        refine ⟨q', by rw [List.getElem?_set_ne (Ne.symm ha1)]; exact e1', e2', ?_⟩
        by_cases e : r'.s = r.s
        · obtain rfl := hu2 r' hr' r hr e
          rw [e1] at e1'
          cases e1'
          unfold upd
          rw [if_pos rfl, if_pos rfl]
          exact setRow_Cs e3
        · have : upd L r.s r'.s = L r'.s := by unfold upd; rw [if_neg e]
          rw [this]
          have hq : q' ≠ q := by
            rintro rfl
            refine hA.ne r' hr' r hr (fun ea => ?_) hL2 hLa (by rw [e1', e1])
            obtain rfl := hu1 r' hr' r hr ea
            exact e rfl
          exact e3'.mod hmst hq
      · have a1 : r1.a ≠ r.s := hu3 r1 hr1 r hr
        have a2 : r2.a ≠ r.s := hu3 r2 hr2 r hr
        rw [List.getElem?_set_ne (Ne.symm a1), List.getElem?_set_ne (Ne.symm a2)]
        unfold upd at h1 h2
        rw [if_neg a1] at h1
        rw [if_neg a2] at h2
        exact hA.ne r1 hr1 r2 hr2 hne h1 h2
    have hna : ¬ ∃ r ∈ al, r.a = i ∨ r.s = i := by
      rintro ⟨r, hr, h | h⟩
      · exact hma ⟨r, hr, h⟩
      · exact hsa ⟨r, hr, h⟩
    · refine wpOp_mono ?_ (hst.2.2 (fun r hr => ⟨fun e => hna ⟨r, hr, Or.inl e⟩, fun e => hna ⟨r, hr, Or.inr e⟩⟩) t (putAll a0 ss vs) w hmod (fun t ht => eval_out _ _ _ _ ht) (fun t ht => by rw [putAll_size, hn]; exact ht) (fun e he hb s' hs' => ?_) hG (fun k' hk' => (hGk k' hk').symm) hub)
      · rintro a' w' ⟨v, rfl, hc1, hc2⟩
        have hlt : i < vs.length := by rw [hl]; exact (List.getElem?_eq_some_iff.1 hs).1
        have hput : (putAll a0 ss vs).put o.dst v = putAll a0 ss (vs.set i v) := by
          have e1 := putAll_put _ _ a0 i s v hnd hl hs
          rcases hds with ⟨h1, h2⟩ | ⟨h1, h2⟩
          · rw [h1]; exact e1
          · rw [h1, ← e1, put_far _ (by rw [putAll_size, hn]; exact h2)]; rfl
        by_cases hci : c.contains i = true
        · obtain ⟨hm', hv, hg'⟩ := hc1 hci
          refine ⟨vs.set i v, hput, by simpa using hl, hmod.trans hm' (fun j _ h => hT _ _ h), hLn, hDn, t ++ [v], ?_, fun j p hj hp => ?_, fun j p hj hp => ?_, hg', fun p u hp hu => ?_, hA.other (fun r hr => ⟨fun e => hna ⟨r, hr, Or.inl e⟩, fun e => hna ⟨r, hr, Or.inr e⟩⟩) (fun r hr q c hq hcs => hcs.mod hm' (fun h => by have := hS _ _ h; omega))⟩
          · obtain ⟨k', hk'⟩ := List.getElem?_of_mem (show i ∈ c by simpa using hci)
            have := hGk k' hk'
            have := (List.getElem?_eq_some_iff.1 hk').1
            rw [List.length_append]; simp; omega
          · unfold upd
            by_cases e : p = i
            · rw [if_pos e]
            · rw [if_neg e]
              refine hk1 j p ?_ hp
              rw [List.length_append] at hj
              simp at hj
              by_cases e2 : j = t.length
              · subst e2
                obtain ⟨k', hk'⟩ := List.getElem?_of_mem (show i ∈ c by simpa using hci)
                have := hGk k' hk'
                subst this
                rw [hk'] at hp
                exact absurd (Option.some.inj hp).symm e
              · omega
          · rw [List.length_append] at hj
            simp at hj
            unfold upd
            have e : ¬ p = i := fun e => by subst e; have := hGk j hp; omega
            rw [if_neg e]
            exact hk2 j p (by omega) hp
          · by_cases e : p = i
            · subst e
              rw [List.getElem?_set_self', List.getElem?_eq_getElem hlt] at hu
              simp at hu
              subst hu
              exact hv
            · rw [List.getElem?_set_ne (Ne.symm e)] at hu
              unfold upd at hp
              rw [if_neg e] at hp
              exact (AllStableG.get l stable p).on _ _ _ _ _ (hV p u hp hu) hm'
        · have hci' : c.contains i = false := by simpa using hci
          obtain ⟨hm', hv⟩ := hc2 hci'
          have hni : ∀ j p : Nat, c[j]? = some p → ¬ p = i := fun j p hp e => hci (by subst e; simpa using List.mem_of_getElem? hp)
          refine ⟨vs.set i v, hput, by simpa using hl, hRT _ _ _ hmod hm', hLn, hDn, t, hkl, fun j p hj hp => ?_, fun j p hj hp => ?_, Gst _ _ _ hG hm', fun p u hp hu => ?_, hA.other (fun r hr => ⟨fun e => hna ⟨r, hr, Or.inl e⟩, fun e => hna ⟨r, hr, Or.inr e⟩⟩) (fun r hr q c hq hcs => (hRA _ _ _ hm').2 r hr q c hcs)⟩
          · unfold upd; rw [if_neg (hni j p hp)]; exact hk1 j p hj hp
          · unfold upd; rw [if_neg (hni j p hp)]; exact hk2 j p hj hp
          · by_cases e : p = i
            · subst e
              rw [List.getElem?_set_self', List.getElem?_eq_getElem hlt] at hu
              simp at hu
              subst hu
              exact hv
            · rw [List.getElem?_set_ne (Ne.symm e)] at hu
              unfold upd at hp
              rw [if_neg e] at hp
              exact (AllStableG.get l stable p).still _ _ _ _ (hV p u hp hu) hm'
      · have hLe := hd e he hb
        cases hoe : ops[e.on]? with
        | none => rw [hoe] at hs'; cases hs'
        | some o2 =>
          rw [hoe] at hs'
          obtain ⟨s2, hs2, hds2⟩ := okSlots_at hss hoe
          rcases hds2 with ⟨h1, h2⟩ | ⟨h1, h2⟩
          · have e3 : s2 = s' := Option.some.inj (h1.symm.trans hs')
            subst e3
            have hvl : e.on < vs.length := by rw [hl]; exact (List.getElem?_eq_some_iff.1 hs2).1
            rw [eval_in a0 ss vs e.on s2 vs[e.on] hnd hl hs2 (by rw [hn]; exact h2) (List.getElem?_eq_getElem hvl)]
            exact hV _ _ hLe (List.getElem?_eq_getElem hvl)
          · have : (none : Option Nat) = some s' := h1.symm.trans hs'
            cases this
  · rintro L vs w hL hl ⟨hmod, hLout, hD, t, hkl, hk1, hk2, hG, hV, hA⟩
    have hk : t.length = c.length := by
      rcases Nat.lt_or_ge t.length c.length with h | h
      · have h1 := hk2 t.length c[t.length] (Nat.le_refl _) (List.getElem?_eq_getElem h)
        rw [hL c[t.length] (by simpa using List.all_eq_true.1 hcs _ (List.getElem_mem h))] at h1
        cases h1
      · omega
    have hsl : ss.length = ops.size := by
      unfold okSlots at hss
      rw [Bool.and_eq_true] at hss
      simpa using hss.1
    refine fin vs t w hl hk hmod hG (fun p v hv => hV p v (hL p (by have := (List.getElem?_eq_some_iff.1 hv).1; omega)) hv) (fun r hr => ?_) (fun r hr r' hr' hne => hA.ne r hr r' hr' hne (hL _ (hals r hr).1) (hL _ (hals r' hr').1))
    obtain ⟨q, e1, e2, e3⟩ := hA.at_ r hr (hL _ (hals r hr).1)
    rw [if_pos (hL _ (hals r hr).2)] at e3
    exact ⟨q, e1, e2, e3⟩
end
def EndS (w0 : World) (n : Nat) (p : GPred) : Prop := ∀ t v w w', t.length = n → p t v w → Mod (fun k => w0.heap.size ≤ k) w w' → p t v w'
def AllEnd (w0 : World) (n : Nat) : List GPred → Prop
  | [] => True
  | p :: r => EndS w0 n p ∧ AllEnd w0 n r
theorem AllEnd.get {w0 : World} {n : Nat} : ∀ (l : List GPred), AllEnd w0 n l → ∀ p t v w w', t.length = n → (l.getD p ga) t v w → Mod (fun k => w0.heap.size ≤ k) w w' → (l.getD p ga) t v w'
  | [], _, _, _, _, _, _, _, h, _ => h
  | q :: r, h, 0, t, v, w, w', h1, h2, h3 => h.1 t v w w' h1 h2 h3
  | q :: r, h, i + 1, t, v, w, w', h1, h2, h3 => by
    have := AllEnd.get r h.2 i t v w w' h1 (by simpa using h2) h3
    simpa using this
section
variable {w0 : World} {n : Nat}
theorem gi_end {x : Value} : EndS w0 n (gi x) := fun _ _ _ _ _ h _ => h
theorem ga_end : EndS w0 n ga := fun _ _ _ _ _ h _ => h
theorem gv_end {j : Nat} : EndS w0 n (gv j) := fun _ _ _ _ _ h _ => h
theorem litG_end {B : Nat} {T8 : TypeId} {K : Nat} {C : Array Value} (hK : K < n) : EndS w0 n (litG B T8 K C) := fun t v w w' hl _ _ h => by omega
theorem stillA {al : List AlRow} : ∀ k w w', Still k w w' → w.heap.size ≤ w'.heap.size ∧ ∀ r ∈ al, ∀ q c, Cs w q c r.T → Cs w' q c r.T := fun _ _ _ h => ⟨h.size, fun _ _ _ _ hc => hc.mod h (fun h => h)⟩
theorem Cs_marked' {B : Nat} {T8 : TypeId} {w w' : World} {g : Nat} {c : Array Value} {e : TypeId} (h : Cs w g c e) (hm : Marked B T8 w w') (hne : e ≠ T8) : Cs w' g c e := by
  rcases hm.block g h.lt with h1 | ⟨-, C, m, h1, -⟩
  · exact h1.trans h
  · unfold Cs at h
    rw [h] at h1
    cases h1
    exact absurd rfl hne
theorem stillMA {B : Nat} {T8 : TypeId} {K : Nat} {al : List AlRow} (hal : ∀ r ∈ al, r.T ≠ T8) : ∀ k w w', StillM B T8 K k w w' → w.heap.size ≤ w'.heap.size ∧ ∀ r ∈ al, ∀ q c, Cs w q c r.T → Cs w' q c r.T := by
  rintro k w w' (h | ⟨-, h⟩)
  · exact ⟨h.size, fun _ _ _ _ hc => hc.mod h (fun h => h)⟩
  · exact ⟨h.size, fun r hr _ _ hc => Cs_marked' hc h (hal r hr)⟩
theorem stillM_T2 {B : Nat} {T8 : TypeId} {K : Nat} {w0 : World} {T : Nat → Prop} (hT : ∀ j, B ≤ j → T j) : ∀ k w w', Mod T w0 w → StillM B T8 K k w w' → Mod T w0 w' := by
  rintro k w w' hm (h | ⟨-, h⟩)
  · exact hm.trans h (fun _ _ h => h.elim)
  · refine ⟨h.os.trans hm.os, h.tape.trans hm.tape, h.output.trans hm.output, Nat.le_trans hm.size h.size, fun j hj hn => ?_⟩
    rcases h.block j (Nat.lt_of_lt_of_le hj hm.size) with h1 | ⟨h1, -⟩
    · exact h1.trans (hm.block j hj hn)
    · exact absurd (hT j h1) hn
theorem MapIs.marked {κ ν : Type} {enc : κ → Value} {val : ν → Value} {ok : κ → Prop} {l : List (κ × ν)} {b B : Nat} {T8 : TypeId} {w w' : World} (h : MapIs w b enc val ok l) (hm : Marked B T8 w w') : MapIs w' b enc val ok l := by
  obtain ⟨⟨es, clock, hb, he⟩, h2, h3⟩ := h
  refine ⟨⟨es, clock, ?_, he⟩, h2, h3⟩
  rcases hm.block b (Array.getElem?_eq_some_iff.1 hb).1 with h1 | ⟨-, C, m, h1, -⟩
  · exact h1.trans hb
  · rw [hb] at h1; cases h1
theorem ex_build0 {P : Program} {o : Oper} {a : Act} {w : World} {t : TypeId} {r : Array Value} (ho : o.op = .build t #[]) (h : P.built t [] = some r) : (execOp a.eval o).run P w = .ok (.value (.agg r)) w := by
  have hr := run_build (P := P) w t #[] r h
  unfold execOp
  simp [ho, hr]
end
end Go.Gv
