/- A writer that a region fills, one call behind the other: the state for wp_region_G. -/
import Derived.Test.YtknpapcfhnhheaaVal3
import Derived.Test.YtknpapcfhnhheaaSha5
set_option maxRecDepth 100000
set_option linter.unusedVariables false
namespace Go.Proofs.Ytknpapcfhnhheaa
open Go Go.RowKit Go.Gv

/-- how much a stage has at most -/
def Nf (k : Nat) : Nat := 100 * k
/-- the trail of a new writer: it is made, then filled: behind k calls it has ct k -/
def WcG (B : Nat) (ct : Nat → List Int) (t : List Value) (w : World) : Prop := B ≤ w.heap.size ∧
  ∀ p, t[0]? = some p → ∃ g, p = .pointer (some ⟨g, 0, none⟩) ∧ (∀ q ∈ t, q = p) ∧ B ≤ g ∧
    (t.length = 1 → Cs w g #[.slice none 0 0] 138) ∧ (2 ≤ t.length → WrR (fun k => B ≤ k) (Nf t.length) w g (ct t.length))
def WcS (B : Nat) : Nat → Nat → Prop := fun k j => 1 ≤ k ∧ B ≤ j
theorem WcS_T (B : Nat) : ∀ k j, WcS B k j → B ≤ j := fun _ _ h => h.2
theorem WcG_nil {B : Nat} {ct : Nat → List Int} {w : World} (h : B ≤ w.heap.size) : WcG B ct [] w := ⟨h, fun p hp => by simp at hp⟩
theorem Cs_marked {B : Nat} {T8 : TypeId} {w w' : World} {g : Nat} {c : Array Value} {e : TypeId} (h : Cs w g c e) (hm : Marked B T8 w w') (hne : e ≠ T8) : Cs w' g c e := by
  rcases hm.block g h.lt with h1 | ⟨-, C, m, h1, -⟩
  · exact h1.trans h
  · unfold Cs at h
    rw [h] at h1
    cases h1
    exact absurd rfl hne
theorem WcG_still {B : Nat} {ct : Nat → List Int} : ∀ t w w', WcG B ct t w → StillM B 5 1 t.length w w' → WcG B ct t w' := by
  rintro t w w' ⟨h0, h⟩ hr
  refine ⟨Nat.le_trans h0 (by rcases hr with hr | ⟨-, hr⟩; exact hr.size; exact hr.size), fun p hp => ?_⟩
  obtain ⟨g, h1, h2, h3, h4, h5⟩ := h p hp
  rcases hr with hr | ⟨hk, hr⟩
  · exact ⟨g, h1, h2, h3, fun h => (h4 h).mod hr (fun h => h), fun h => (h5 h).mod hr (fun _ _ h => h)⟩
  · exact ⟨g, h1, h2, h3, fun h => Cs_marked (h4 h) hr (by decide), fun h => by omega⟩
/-- the writer is made -/
theorem WcG_new {B : Nat} {ct : Nat → List Int} {t : List Value} {w w' : World} (h : WcG B ct t w) (hl : t.length = 0) {g : Nat} (hg : w.heap.size ≤ g) (hc : Wr w' g (.slice none 0 0) []) (hm : Mod (fun _ => False) w w') : WcG B ct (t ++ [.pointer (some ⟨g, 0, none⟩)]) w' := by
  obtain rfl : t = [] := List.eq_nil_of_length_eq_zero hl
  refine ⟨Nat.le_trans h.1 hm.size, fun p hp => ?_⟩
  simp only [List.nil_append, List.getElem?_cons_zero, Option.some.injEq] at hp
  subst hp
  exact ⟨g, rfl, by simp, Nat.le_trans h.1 hg, fun _ => hc.1, fun h => by simp at h⟩
theorem WcG_at {B : Nat} {ct : Nat → List Int} {t : List Value} {w : World} (h : WcG B ct t w) (hl : 0 < t.length) : ∃ g, t[0]? = some (.pointer (some ⟨g, 0, none⟩)) ∧ (∀ q ∈ t, q = .pointer (some ⟨g, 0, none⟩)) ∧ B ≤ g := by
  obtain ⟨g, h1, h2, h3, -, -⟩ := h.2 t[0] (List.getElem?_eq_getElem hl)
  exact ⟨g, by rw [List.getElem?_eq_getElem hl, h1], by rw [← h1]; exact h2, h3⟩
theorem WcG_on {B : Nat} {ct : Nat → List Int} {t : List Value} {w w' : World} (h : WcG B ct t w) {g : Nat} (h0 : t[0]? = some (.pointer (some ⟨g, 0, none⟩))) (h2 : 2 ≤ (t ++ [Value.pointer (some ⟨g, 0, none⟩)]).length) {N : Nat} {R : Nat → Prop} (hw : WrR R N w' g (ct (t.length + 1))) (hR : ∀ k, R k → B ≤ k) (hN : N ≤ Nf (t.length + 1)) (hs : w.heap.size ≤ w'.heap.size) : WcG B ct (t ++ [.pointer (some ⟨g, 0, none⟩)]) w' := by
  have hlt : 0 < t.length := (List.getElem?_eq_some_iff.1 h0).1
  obtain ⟨g', e1, e2, e3⟩ := WcG_at h hlt
  rw [h0] at e1
  cases e1
  refine ⟨Nat.le_trans h.1 hs, fun p hp => ?_⟩
  rw [List.getElem?_append_left hlt, h0] at hp
  cases hp
  refine ⟨g, rfl, fun q hq => ?_, e3, fun h => by rw [h] at h2; omega, fun _ => ?_⟩
  · rcases List.mem_append.1 hq with hq | hq
    · exact e2 q hq
    · simpa using hq
  · rw [List.length_append]
    exact hw.widen hR hN
/-- what stands in the trail at any place is the writer -/
theorem WcG_val {B : Nat} {ct : Nat → List Int} {t : List Value} {w : World} (h : WcG B ct t w) {j : Nat} {v : Value} (hv : t[j]? = some v) : ∃ g, v = .pointer (some ⟨g, 0, none⟩) ∧ t[0]? = some (.pointer (some ⟨g, 0, none⟩)) ∧ B ≤ g ∧ (t.length = 1 → Cs w g #[.slice none 0 0] 138) ∧ (2 ≤ t.length → WrR (fun k => B ≤ k) (Nf t.length) w g (ct t.length)) := by
  have hlt : 0 < t.length := by have := (List.getElem?_eq_some_iff.1 hv).1; omega
  obtain ⟨g, h1, h2, h3, h4, h5⟩ := h.2 t[0] (List.getElem?_eq_getElem hlt)
  have := h2 v (List.mem_of_getElem? hv)
  exact ⟨g, by rw [this, h1], by rw [List.getElem?_eq_getElem hlt, h1], h3, h4, h5⟩
/-- the first call: a row that is a literal -/
theorem Wc_row {B : Nat} {ct : Nat → List Int} {t : List Value} {w : World} {p v : Value} {C : List Int} (h : WcG B ct t w) (hl : t.length = 1) (hp : t[0]? = some p) (hv : litG B 5 1 (C.map bv).toArray t v w) (hC : Bytes C) (hC2 : C.length ≤ 50) (hct : ct 2 = encN C.length ++ C) :
    Calls Try.prog 107 #[p, v] w fun e w' => ∃ u, e = .returned u ∧ Mod (WcS B t.length) w w' ∧ (t ++ [u])[1]? = some u ∧ WcG B ct (t ++ [u]) w' := by
  obtain ⟨g, rfl, h0, hB, hc, -⟩ := WcG_val h hp
  obtain ⟨g2, rfl, hB2, m, -, hb⟩ := hv (by omega)
  have hcs := hc hl
  have hne : g2 ≠ g := by
    rintro rfl
    unfold Cs at hcs
    rw [hb] at hcs
    have e : (5 : TypeId) = 138 := congrArg (fun o => match o with | some (Obj.cells _ e _) => e | _ => 0) hcs
    exact absurd e (by decide)
  have hW : WrR (fun k => k = g) 0 w g [] := ⟨.slice none 0 0, ⟨hcs, OwnB.nil _⟩, rfl, (fun g hg => by cases hg), Nat.le_refl _⟩
  have hrd : RdB w (.slice (some ⟨g2, 0, none⟩) (C.map bv).toArray.size (C.map bv).toArray.size) C := by
    refine ⟨hC, ?_⟩
    have e : (C.map bv).toArray.size = C.length := by simp
    rw [e]
    refine Rd.mk (by omega) (by rw [maxLen_val]; omega) (by simp) (fun j u hu => ?_)
    rw [show (0 : Nat) + j = j by omega]
    simp only [World.cell?, hb]
    simpa using hu
  have hr : RdR (fun k => k = g2) 50 w (.slice (some ⟨g2, 0, none⟩) (C.map bv).toArray.size (C.map bv).toArray.size) C := ⟨hrd, fun _ g hg => (Option.some.inj (hg.symm.trans rfl)), hC2⟩
  refine (WRow_R hW hr (fun k h1 h2 => hne (h1.symm.trans h2)) (by omega)).mono ?_
  rintro e w2 ⟨rfl, hw2, hm2⟩
  refine ⟨_, rfl, hm2.mono (fun k _ hk => ⟨by omega, by subst hk; exact hB⟩), ?_, WcG_on h h0 (by simp; omega) (R := fun k => k = g ∨ New w w2 k) (N := 0 + 50 + 10) (by rw [hl, hct]; simpa using hw2) (fun k hk => ?_) (by rw [hl]; decide) hm2.size⟩
  · rw [List.getElem?_append_right (by omega), hl]; rfl
  · rcases hk with rfl | hk
    · exact hB
    · exact Nat.le_trans h.1 hk.1
/-- a whole number -/
theorem Wc_int {B : Nat} {ct : Nat → List Int} {t : List Value} {w : World} {p : Value} {n : Int} {k : Nat} (h : WcG B ct t w) (hl : t.length = k) (h2 : 2 ≤ k) (h9 : k ≤ 90) {j : Nat} (hp : t[j]? = some p) (hn : -9223372036854775808 ≤ n ∧ n ≤ 9223372036854775807) (hct : ct (k + 1) = ct k ++ encI n) :
    Calls Try.prog 64 #[p, .int .i64 n] w fun e w' => ∃ u, e = .returned u ∧ Mod (WcS B t.length) w w' ∧ (t ++ [u])[k]? = some u ∧ WcG B ct (t ++ [u]) w' := by
  obtain ⟨g, rfl, h0, hB, -, hw⟩ := WcG_val h hp
  refine (WInt_R (hw (by omega)) hn (by unfold Nf; omega)).mono ?_
  rintro e w2 ⟨rfl, hw2, hm2⟩
  refine ⟨_, rfl, hm2.mono (fun k _ hk => ⟨by omega, hk⟩), ?_, WcG_on h h0 (by simp; omega) (by rw [hl, hct]; rw [hl] at hw2; exact hw2) (fun k hk => ?_) (by unfold Nf; omega) hm2.size⟩
  · rw [List.getElem?_append_right (by omega), hl]; simp
  · rcases hk with hk | hk
    · exact hk
    · exact Nat.le_trans h.1 hk.1
end Go.Proofs.Ytknpapcfhnhheaa
