/- Things of many kinds, as cells (Rep); slices of them, read (RdS) or appended to (OwS). Pieces of a block's cells. No program here. -/
import Derived.Test.YtknpapcfhnhheaaMem
set_option linter.unusedVariables false
namespace Go.Gv
open Go Go.RowKit

section
variable {w : World} {g : Nat} {T : TypeId} {pre mid post cs M : List Value} {off k m : Nat} {u : Value}
theorem Cs.litA (h : Cs w g cs.toArray T) (hM : (cs.drop off).take M.length = M) : ∀ j u, M[j]? = some u → w.cell? ⟨g, off + j, none⟩ = some u := by
  intro j u hu
  rw [h.cell]
  simp only [List.getElem?_toArray]
  rw [← hM, List.getElem?_take] at hu
  split at hu
  · rwa [List.getElem?_drop] at hu
  · cases hu
theorem Cs.lit1 (h : Cs w g cs.toArray T) (hu : cs[off]? = some u) : w.cell? ⟨g, off, none⟩ = some u := by
  rw [h.cell]; simpa using hu
theorem Cs.pre1 (h : Cs w g (pre ++ (mid ++ post)).toArray T) (hu : pre[off]? = some u) : w.cell? ⟨g, off, none⟩ = some u := by
  rw [h.cell]
  simp only [List.getElem?_toArray]
  rw [List.getElem?_append_left (List.getElem?_eq_some_iff.1 hu).1]
  exact hu
theorem Cs.preA (h : Cs w g (pre ++ (mid ++ post)).toArray T) (hM : (pre.drop off).take M.length = M) : ∀ j u, M[j]? = some u → w.cell? ⟨g, off + j, none⟩ = some u := by
  intro j u hu
  refine Cs.pre1 h ?_
  rw [← hM, List.getElem?_take] at hu
  split at hu
  · rwa [List.getElem?_drop] at hu
  · cases hu
theorem Cs.midA (h : Cs w g (pre ++ (mid ++ post)).toArray T) (ho : off = pre.length) : ∀ j u, mid[j]? = some u → w.cell? ⟨g, off + j, none⟩ = some u := by
  intro j u hu
  subst ho
  rw [h.cell]
  simp only [List.getElem?_toArray]
  rw [List.getElem?_append_right (by omega), Nat.add_sub_cancel_left, List.getElem?_append_left (List.getElem?_eq_some_iff.1 hu).1]
  exact hu
theorem Cs.post1 (h : Cs w g (pre ++ (mid ++ post)).toArray T) (hl : mid.length = m) (ho : off = pre.length + m + k) (hu : post[k]? = some u) : w.cell? ⟨g, off, none⟩ = some u := by
  subst ho
  rw [h.cell]
  simp only [List.getElem?_toArray]
  rw [List.getElem?_append_right (by omega), List.getElem?_append_right (by omega), show pre.length + m + k - pre.length - mid.length = k by omega]
  exact hu
theorem Cs.hd1 (h : Cs w g (pre ++ mid).toArray T) (hu : pre[off]? = some u) : w.cell? ⟨g, off, none⟩ = some u := by
  rw [h.cell]
  simp only [List.getElem?_toArray]
  rw [List.getElem?_append_left (List.getElem?_eq_some_iff.1 hu).1]
  exact hu
theorem Cs.tlA (h : Cs w g (pre ++ mid).toArray T) (ho : off = pre.length) : ∀ j u, mid[j]? = some u → w.cell? ⟨g, off + j, none⟩ = some u := by
  intro j u hu
  subst ho
  rw [h.cell]
  simp only [List.getElem?_toArray]
  rw [List.getElem?_append_right (by omega), Nat.add_sub_cancel_left]
  exact hu
theorem Cs.postA (h : Cs w g (pre ++ (mid ++ post)).toArray T) (hl : mid.length = m) (ho : off = pre.length + m + k) (hM : (post.drop k).take M.length = M) : ∀ j u, M[j]? = some u → w.cell? ⟨g, off + j, none⟩ = some u := by
  intro j u hu
  refine Cs.post1 h hl (k := k + j) (by omega) ?_
  rw [← hM, List.getElem?_take] at hu
  split at hu
  · rwa [List.getElem?_drop] at hu
  · cases hu
end

theorem Rd.keepc {s : Nat} {w w' : World} {v : Value} {n : Nat} {cs : List Value} (h : Rd s w v n cs) (hk : 0 < n → ∀ g, v.ownBlock = some g → ∀ p u, p.block = g → w.cell? p = some u → w'.cell? p = some u) : Rd s w' v n cs := by
  obtain ⟨hl, ao, cap, rfl, h1, h2, h3, h4⟩ := h
  refine ⟨hl, ao, cap, rfl, h1, h2, h3, fun x hx j u hu => ⟨(h4 x hx j u hu).1, ?_⟩⟩
  have hc := (h4 x hx j u hu).2
  have hn : 0 < n := by
    rcases Nat.eq_zero_or_pos n with rfl | h
    · have : cs = [] := List.eq_nil_of_length_eq_zero (by simpa using hl)
      subst this; simp at hu
    · exact h
  have hb : (x.add j).block = x.block := by unfold Addr.add; split <;> rfl
  subst hx
  exact hk hn x.block rfl _ _ hb hc
theorem Rd.lt {s : Nat} {w : World} {v : Value} {n : Nat} {cs : List Value} (h : Rd s w v n cs) (hs : 0 < s) (hn : 0 < n) {g : Nat} (hg : v.ownBlock = some g) : g < w.heap.size := by
  rcases h.form hs with ⟨h0, _⟩ | ⟨g', o, cap, _, rfl, _, _, hl, hc⟩
  · omega
  · simp [Value.ownBlock] at hg
    subst hg
    have hpos : 0 < cs.length := by rw [hl]; exact Nat.mul_pos hn hs
    exact World.block_lt_of_cell? _ _ (hc 0 _ (List.getElem?_eq_getElem hpos))

/-- a kind of things: how many cells one has; which cells are one, in a world; what it holds lies in blocks of R -/
structure Rep (α : Type) where
  sz : Nat
  pos : 0 < sz
  rd : (Nat → Prop) → World → List Value → α → Prop
  len : ∀ {R w cs a}, rd R w cs a → cs.length = sz
  one : ∀ {R w cs a}, rd R w cs a → ∀ u ∈ cs, u.oneCell' = true
  keep : ∀ {R w w' cs a}, rd R w cs a → (∀ p u, R p.block → w.cell? p = some u → w'.cell? p = some u) → rd R w' cs a
  wid : ∀ {R R' : Nat → Prop} {w cs a}, rd R w cs a → (∀ k, R k → R' k) → rd R' w cs a
  tight : ∀ {R w cs a}, rd R w cs a → rd (fun k => R k ∧ k < w.heap.size) w cs a
namespace Rep
variable {α : Type} {A : Rep α} {R R' S : Nat → Prop} {w w' : World} {cs : List Value} {a : α}
theorem mod (h : A.rd R w cs a) (hm : Mod S w w') (hs : ∀ k, R k → S k → False) : A.rd R w' cs a := A.keep h fun p u hp hc => hm.cell hc (fun hS => hs _ hp hS)
end Rep
theorem Rep.rd.mod {α : Type} {A : Rep α} {R S : Nat → Prop} {w w' : World} {cs : List Value} {a : α} (h : A.rd R w cs a) (hm : Mod S w w') (hs : ∀ k, R k → S k → False) : A.rd R w' cs a := Rep.mod h hm hs
theorem Rep.rd.widen {α : Type} {A : Rep α} {R R' : Nat → Prop} {w : World} {cs : List Value} {a : α} (h : A.rd R w cs a) (hs : ∀ k, R k → R' k) : A.rd R' w cs a := A.wid h hs
/-- cells in the middle of a block -/
def CellsAt (R : Nat → Prop) (w : World) (g off : Nat) (cs : List Value) : Prop := R g ∧ ∀ j u, cs[j]? = some u → w.cell? ⟨g, off + j, none⟩ = some u
theorem CellsAt.mod {R S : Nat → Prop} {w w' : World} {g off : Nat} {cs : List Value} (h : CellsAt R w g off cs) (hm : Mod S w w') (hs : ∀ k, R k → S k → False) : CellsAt R w' g off cs := ⟨h.1, fun j u hu => hm.cell (h.2 j u hu) (hs _ h.1)⟩
/-- a flat kind: its cells say it all -/
def Rep.flat {α : Type} (sz : Nat) (hp : 0 < sz) (cells : α → List Value) (ok : α → Prop) (hl : ∀ a, ok a → (cells a).length = sz) (h1 : ∀ a, ok a → ∀ u ∈ cells a, u.oneCell' = true) : Rep α where
  sz := sz
  pos := hp
  rd _ _ cs a := cs = cells a ∧ ok a
  len h := by rw [h.1]; exact hl _ h.2
  one h := by rw [h.1]; exact h1 _ h.2
  keep h _ := h
  wid h _ := h
  tight h := h

/-- a slice of things, read -/
def RdS {α : Type} (A : Rep α) (R : Nat → Prop) (w : World) (v : Value) (l : List α) : Prop :=
  ∃ css : List (List Value), css.length = l.length ∧ (∀ (i : Nat) cs a, css[i]? = some cs → l[i]? = some a → A.rd R w cs a) ∧ Rd A.sz w v l.length css.flatten ∧ (0 < l.length → ∀ g, v.ownBlock = some g → R g)
/-- a slice of things that may be appended to: its own block is one of R, what its things hold lies in others, of E -/
def OwS {α : Type} (A : Rep α) (e : TypeId) (R E : Nat → Prop) (w : World) (v : Value) (l : List α) : Prop :=
  ∃ css : List (List Value), css.length = l.length ∧ (∀ (i : Nat) cs a, css[i]? = some cs → l[i]? = some a → A.rd (fun k => E k ∧ v.ownBlock ≠ some k) w cs a) ∧ Own (fun u => u.oneCell' = true) e A.sz w v l.length css.flatten ∧ ∀ g, v.ownBlock = some g → R g
section
variable {α : Type} {A : Rep α} {e : TypeId} {R R' S : Nat → Prop} {w w' : World} {v : Value} {l : List α}
theorem flat_get {css : List (List Value)} {s : Nat} (h : ∀ cs ∈ css, cs.length = s) : ∀ (i : Nat) (cs : List Value), css[i]? = some cs → ∀ j u, cs[j]? = some u → css.flatten[i * s + j]? = some u := by
  induction css with
  | nil => intro i cs hi; simp at hi
  | cons c r ih =>
    intro i cs hi j u hu
    have hc : c.length = s := h c (by simp)
    cases i with
    | zero =>
      simp at hi
      subst hi
      rw [List.flatten_cons, Nat.zero_mul, Nat.zero_add, List.getElem?_append_left (List.getElem?_eq_some_iff.1 hu).1]
      exact hu
    | succ i =>
      simp at hi
      rw [List.flatten_cons, List.getElem?_append_right (by rw [hc, Nat.succ_mul]; omega), hc, show (i + 1) * s + j - s = i * s + j by rw [Nat.succ_mul]; omega]
      exact ih (fun x hx => h x (by simp [hx])) i cs hi j u hu
theorem flat_len {css : List (List Value)} {s : Nat} (h : ∀ cs ∈ css, cs.length = s) : css.flatten.length = css.length * s := by
  induction css with
  | nil => simp
  | cons c r ih => rw [List.flatten_cons, List.length_append, ih (fun x hx => h x (by simp [hx])), h c (by simp), List.length_cons, Nat.succ_mul]; omega
theorem css_len {css : List (List Value)} {P : List Value → α → Prop} (hl : css.length = l.length) (hP : ∀ (i : Nat) cs a, css[i]? = some cs → l[i]? = some a → P cs a) {s : Nat} (hs : ∀ cs a, P cs a → cs.length = s) : ∀ cs ∈ css, cs.length = s := by
  intro cs hcs
  obtain ⟨i, hi⟩ := List.getElem?_of_mem hcs
  have h1 := (List.getElem?_eq_some_iff.1 hi).1
  exact hs cs _ (hP i cs l[i] hi (List.getElem?_eq_getElem (by omega)))
theorem RdS.shape (h : RdS A R w v l) : ∃ ao cap, v = .slice ao l.length cap := by
  obtain ⟨css, _, _, ⟨_, ao, cap, e, _⟩, _⟩ := h; exact ⟨ao, cap, e⟩
theorem RdS.keep (h : RdS A R w v l) (hk : ∀ p u, R p.block → w.cell? p = some u → w'.cell? p = some u) : RdS A R w' v l := by
  obtain ⟨css, h1, h2, h3, h4⟩ := h
  exact ⟨css, h1, fun i cs a hi hl => A.keep (h2 i cs a hi hl) hk, h3.keepc fun h0 g hg p u hp hc => hk p u (hp ▸ h4 h0 g hg) hc, h4⟩
theorem RdS.mod (h : RdS A R w v l) (hm : Mod S w w') (hs : ∀ k, R k → S k → False) : RdS A R w' v l := h.keep fun p u hp hc => hm.cell hc (fun hS => hs _ hp hS)
theorem RdS.widen (h : RdS A R w v l) (hs : ∀ k, R k → R' k) : RdS A R' w v l := by
  obtain ⟨css, h1, h2, h3, h4⟩ := h
  exact ⟨css, h1, fun i cs a hi hl => A.wid (h2 i cs a hi hl) hs, h3, fun h0 g hg => hs g (h4 h0 g hg)⟩
theorem RdS.tight (h : RdS A R w v l) : RdS A (fun k => R k ∧ k < w.heap.size) w v l := by
  obtain ⟨css, h1, h2, h3, h4⟩ := h
  exact ⟨css, h1, fun i cs a hi hl => A.tight (h2 i cs a hi hl), h3, fun h0 g hg => ⟨h4 h0 g hg, h3.lt A.pos h0 hg⟩⟩
theorem RdS.nil (A : Rep α) (R : Nat → Prop) (w : World) : RdS A R w (.slice none 0 0) [] := ⟨[], rfl, (fun i cs a h => by simp at h), Rd.nil _ _, fun h => by simp at h⟩
theorem RdS.bd (h : RdS A R w v l) : l.length ≤ maxLen := by
  obtain ⟨css, _, _, ⟨_, ao, cap, _, h1, h2, _⟩, _⟩ := h; omega
/-- its i-th thing's cells -/
theorem RdS.at {ao : Option Addr} {n cap : Nat} (h : RdS A R w (.slice ao n cap) l) {i : Nat} (hi : i < l.length) : ∃ g o cs, ao = some ⟨g, o, none⟩ ∧ R g ∧ A.rd R w cs l[i] ∧ ∀ j u, cs[j]? = some u → w.cell? ⟨g, o + i * A.sz + j, none⟩ = some u := by
  obtain ⟨css, h1, h2, h3, h4⟩ := h
  rcases h3.form A.pos with ⟨h0, _⟩ | ⟨g, o, cap', h0, e, _, _, hl, hc⟩
  · omega
  · simp only [Value.slice.injEq] at e
    obtain ⟨rfl, rfl, rfl⟩ := e
    have hi2 : i < css.length := by omega
    refine ⟨g, o, css[i], rfl, h4 h0 g rfl, h2 i _ _ (List.getElem?_eq_getElem hi2) (List.getElem?_eq_getElem hi), fun j u hu => ?_⟩
    have := flat_get (css_len h1 h2 (fun cs a h => A.len h)) i _ (List.getElem?_eq_getElem hi2) j u hu
    rw [Nat.add_assoc]
    exact hc _ _ this
/-- its first things -/
theorem RdS.upto {ao : Option Addr} {n cap : Nat} (h : RdS A R w (.slice ao n cap) l) (k : Nat) (hk : k ≤ l.length) : RdS A R w (.slice ao k cap) (l.take k) := by
  obtain ⟨css, h1, h2, ⟨hl, ao', cap', e, g1, g2, g3, g4⟩, h4⟩ := h
  simp only [Value.slice.injEq] at e
  obtain ⟨rfl, rfl, rfl⟩ := e
  have hcl := css_len h1 h2 (fun cs a h => A.len h)
  have el : (l.take k).length = k := by simp; omega
  have ef : (css.take k).flatten = css.flatten.take (k * A.sz) := by
    have h5 : css.flatten = (css.take k).flatten ++ (css.drop k).flatten := by rw [← List.flatten_append, List.take_append_drop]
    have h6 : (css.take k).flatten.length = k * A.sz := by rw [flat_len (fun x hx => hcl x (List.mem_of_mem_take hx))]; congr 1; simp; omega
    rw [h5, ← h6, List.take_left]
  refine ⟨css.take k, by simp; omega, fun i cs a hi ha => ?_, ?_, fun h0 g hg => h4 (by simp at h0; omega) g (by cases ao <;> exact hg)⟩
  · rw [List.getElem?_take] at hi ha
    split at hi
    · rename_i hik
      rw [if_pos hik] at ha
      exact h2 i cs a hi ha
    · cases hi
  · rw [el, ef]
    refine ⟨?_, ao, cap, rfl, by omega, g2, g3, fun x hx j u hu => g4 x hx j u ?_⟩
    · rw [List.length_take, flat_len hcl, h1]
      exact Nat.min_eq_left (Nat.mul_le_mul_right _ hk)
    · rw [List.getElem?_take] at hu
      split at hu
      · exact hu
      · cases hu
theorem OwS.rd {E : Nat → Prop} (h : OwS A e R E w v l) : RdS A (fun k => R k ∨ E k) w v l := by
  obtain ⟨css, h1, h2, h3, h4⟩ := h
  exact ⟨css, h1, fun i cs a hi hl => A.wid (h2 i cs a hi hl) (fun k hk => Or.inr hk.1), Own.rd h3, fun _ g hg => Or.inl (h4 g hg)⟩
theorem OwS.shape {E : Nat → Prop} (h : OwS A e R E w v l) : ∃ ao cap, v = .slice ao l.length cap := h.rd.shape
theorem OwS.mod {E : Nat → Prop} (h : OwS A e R E w v l) (hm : Mod S w w') (hs : ∀ k, R k → S k → False) (hs2 : ∀ k, E k → S k → False) : OwS A e R E w' v l := by
  obtain ⟨css, h1, h2, h3, h4⟩ := h
  exact ⟨css, h1, fun i cs a hi hl => Rep.mod (h2 i cs a hi hl) hm (fun k hk => hs2 k hk.1), Own.mod h3 hm (fun g hg hS => hs g (h4 g hg) hS), h4⟩
theorem OwS.widen {E E' : Nat → Prop} (h : OwS A e R E w v l) (hs : ∀ k, R k → R' k) (hs2 : ∀ k, E k → E' k) : OwS A e R' E' w v l := by
  obtain ⟨css, h1, h2, h3, h4⟩ := h
  exact ⟨css, h1, fun i cs a hi hl => A.wid (h2 i cs a hi hl) (fun k hk => ⟨hs2 k hk.1, hk.2⟩), h3, fun g hg => hs g (h4 g hg)⟩
theorem OwS.nil (A : Rep α) (e : TypeId) (R E : Nat → Prop) (w : World) : OwS A e R E w (.slice none 0 0) [] := ⟨[], rfl, (fun i cs a h => by simp at h), Own.nil _ _ _ _, fun g hg => by cases hg⟩
/-- one thing in a block of its own, as a slice -/
theorem RdS.single {g : Nat} {T : TypeId} {cs : List Value} {a : α} (hc : Cs w g cs.toArray T) (ha : A.rd R w cs a) (hg : R g) : RdS A R w (.slice (some ⟨g, 0, none⟩) 1 1) [a] := by
  refine ⟨[cs], rfl, fun i c b hi hb => ?_, ?_, fun _ g' hg' => by cases hg'; exact hg⟩
  · cases i with
    | zero => simp at hi hb; subst hi hb; exact ha
    | succ i => simp at hi
  · have hl := A.len ha
    refine Rd.mk (Nat.le_refl _) (by rw [maxLen_val]; omega) (by simp [hl]) fun j u hu => ?_
    rw [Nat.zero_add, hc.cell]
    simpa using hu

theorem run_appS {P : Program} {E R2 : Nat → Prop} (w : World) (t ty e : TypeId) (z : Value) (bytes : Nat) (ht : P.underlying t = some (.slice e)) (hinfo : (P.info? e).map (fun i => (i.zero, i.size, i.bytes)) = some (some z, A.sz, bytes)) (hzs : z.cells.size = A.sz) (hzE : ∀ u ∈ z.cells.toList, u.oneCell' = true)
    {v xv : Value} {new : List α} (hown : OwS A e R E w v l) (hrd : RdS A R2 w xv new) (hd : ∀ k, R2 k → v.ownBlock ≠ some k) (hbytes : (l.length + new.length) * bytes ≤ 140737488355328) (h63 : l.length + new.length ≤ maxLen) :
    ∃ ao cap w', (Builtin.append_ #[t, t] ty #[v, xv]).run P w = .ok (.slice ao (l.length + new.length) cap) w' ∧ OwS A e (fun k => R k ∨ (w.heap.size ≤ k ∧ k < w'.heap.size)) (fun k => E k ∨ R2 k) w' (.slice ao (l.length + new.length) cap) (l ++ new) ∧ Mod R w w' := by
  obtain ⟨i0, hi, hz0, hz1, hz2⟩ := info_parts hinfo
  obtain ⟨css, h1, h3, h4, h5⟩ := hown
  obtain ⟨css2, k1, k2, k3, k4⟩ := hrd
  have hone : ∀ u ∈ css2.flatten, u.oneCell' = true := by
    intro u hu
    obtain ⟨cs, hcs, hu⟩ := List.mem_flatten.1 hu
    obtain ⟨i, hi⟩ := List.getElem?_of_mem hcs
    have h9 := (List.getElem?_eq_some_iff.1 hi).1
    exact A.one (k2 i cs new[i] hi (List.getElem?_eq_getElem (by omega))) u hu
  obtain ⟨ao, cap, w', hr, hown, hm, hb⟩ := run_append (P := P) w t ty e i0 z A.sz bytes ht hi hz0 hz1 hz2 hzs A.pos hzE v l.length css.flatten h4 xv new.length css2.flatten k3 hone hone hbytes h63
  have hnb : ∀ k, k < w.heap.size → v.ownBlock ≠ some k → (Value.slice ao (l.length + new.length) cap).ownBlock ≠ some k := by
    intro k hk hne he
    rcases hb with hb | ⟨k', hb, hk'⟩
    · exact hne (hb ▸ he)
    · rw [hb] at he; cases he; omega
  refine ⟨ao, cap, w', hr, ⟨css ++ css2, by simp [h1, k1], fun i cs a hi ha => ?_, ?_, fun g hg => ?_⟩, hm.mono fun k _ hk => h5 k hk.symm⟩
  · by_cases hil : i < l.length
    · rw [List.getElem?_append_left (by omega)] at hi ha
      have := Rep.mod (A.tight (h3 i cs a hi ha)) hm (fun k hk hS => hk.1.2 hS.symm)
      exact A.wid this fun k hk => ⟨Or.inl hk.1.1, hnb k hk.2 hk.1.2⟩
    · rw [List.getElem?_append_right (by omega)] at hi ha
      rw [h1] at hi
      have := Rep.mod (A.tight (k2 _ cs a hi ha)) hm (fun k hk hS => hd k hk.1 hS.symm)
      exact A.wid this fun k hk => ⟨Or.inr hk.1, hnb k hk.2 (hd k hk.1)⟩
  · rw [List.length_append, List.flatten_append]
    exact hown
  · rcases hb with hb | ⟨k, hb, hk⟩
    · exact Or.inl (h5 g (hb ▸ hg))
    · rw [hb] at hg
      cases hg
      exact Or.inr ⟨hk, Own.lt hown hb⟩
end
end Go.Gv
