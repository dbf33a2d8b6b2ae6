/- sha.mix: a block goes into the state. -/
import Derived.Test.YtknpapcfhnhheaaSha2
import Derived.Test.YtknpapcfhnhheaaInv2
set_option maxRecDepth 100000
set_option linter.unusedVariables false
namespace Go.Proofs.Ytknpapcfhnhheaa
open Go Go.RowKit Go.Gv

theorem zero_of {P : Program} {T : TypeId} {z : Value} (h : (P.info? T).bind (·.zero) = some z) : ∃ info, P.info? T = some info ∧ info.zero = some z := by
  cases hq : P.info? T with
  | none => rw [hq] at h; cases h
  | some i => rw [hq] at h; exact ⟨i, rfl, h⟩
theorem zero_a64 : (Try.prog.info? 171).bind (·.zero) = some (.agg (Array.replicate 64 (wv 0))) := by kernel_rfl
theorem zero_a8 : (Try.prog.info? 170).bind (·.zero) = some (.agg (Array.replicate 8 (wv 0))) := by kernel_rfl
theorem upd_ne {L : Nat → Bool} {i j : Nat} (h : j ≠ i) : upd L i j = L j := by simp [upd, h]
theorem upd_eq {L : Nat → Bool} {i : Nat} : upd L i i = true := by simp [upd]
theorem repl_eq (n : Nat) : (Value.agg (Array.replicate n (wv 0))).cells = ((List.replicate n 0).map wv).toArray := by
  simp only [Value.cells, List.map_replicate]
  rfl

/-- the walk of 'w, s := spread(b), h' -/
structure MixI (w0 : World) (v : Value) (hs F z8 z64 : List Int) (g3 : Nat) (L : Nat → Bool) (vs : List Value) (w : World) : Prop where
  mod : Mod (fun _ => False) w0 w
  b3 : Ws 170 w g3 hs
  v0 : L 0 = true → vs[0]? = some v
  v1 : L 1 = true → vs[1]? = some (.agg (F.map wv).toArray)
  v2 : L 2 = true → vs[2]? = some (.agg (hs.map wv).toArray)
  v3 : L 3 = true → ∃ g, vs[3]? = some (.pointer (some ⟨g, 0, none⟩)) ∧ w0.heap.size ≤ g ∧ Ws 171 w g (if L 5 then F else z64)
  v4 : L 4 = true → ∃ g, vs[4]? = some (.pointer (some ⟨g, 0, none⟩)) ∧ w0.heap.size ≤ g ∧ Ws 170 w g (if L 6 then hs else z8)
  ne : vs[3]? = vs[4]? → L 3 = true → L 4 = true → False
  d5 : L 5 = true → L 3 = true
  d6 : L 6 = true → L 4 = true

theorem MixI.world {w0 w w' : World} {v : Value} {hs F z8 z64 : List Int} {g3 : Nat} {L : Nat → Bool} {vs : List Value} (h : MixI w0 v hs F z8 z64 g3 L vs w) (hm : Mod (fun _ => False) w w') : MixI w0 v hs F z8 z64 g3 L vs w' :=
  ⟨h.mod.trans hm (fun _ _ h => h), h.b3.mod hm (fun h => h), h.v0, h.v1, h.v2,
    fun hL => by obtain ⟨g, h1, h2, h3⟩ := h.v3 hL; exact ⟨g, h1, h2, h3.mod hm (fun h => h)⟩,
    fun hL => by obtain ⟨g, h1, h2, h3⟩ := h.v4 hL; exact ⟨g, h1, h2, h3.mod hm (fun h => h)⟩, h.ne, h.d5, h.d6⟩
/-- a value at a place below the pointers -/
theorem MixI.val {w0 w : World} {v : Value} {hs F z8 z64 : List Int} {g3 : Nat} {L : Nat → Bool} {vs : List Value} (h : MixI w0 v hs F z8 z64 g3 L vs w) (hl : vs.length = 5) (i : Nat) (hi : i < 3) (x : Value)
    (hx : x = [v, .agg (F.map wv).toArray, .agg (hs.map wv).toArray].getD i undef) : MixI w0 v hs F z8 z64 g3 (upd L i) (vs.set i x) w := by
  subst hx
  have e : ∀ k, k ≠ i → (vs.set i ([v, .agg (F.map wv).toArray, .agg (hs.map wv).toArray].getD i undef))[k]? = vs[k]? := fun k hk => List.getElem?_set_ne (Ne.symm hk)
  have e' : (vs.set i ([v, .agg (F.map wv).toArray, .agg (hs.map wv).toArray].getD i undef))[i]? = some ([v, .agg (F.map wv).toArray, .agg (hs.map wv).toArray].getD i undef) := List.getElem?_set_self (by omega)
  refine ⟨h.mod, h.b3, fun hL => ?_, fun hL => ?_, fun hL => ?_, fun hL => ?_, fun hL => ?_, fun h1 h2 h3 => ?_, fun h1 => ?_, fun h1 => ?_⟩
  · by_cases hk : 0 = i
    · subst hk; rw [e']; rfl
    · rw [upd_ne hk] at hL; rw [e 0 hk]; exact h.v0 hL
  · by_cases hk : 1 = i
    · subst hk; rw [e']; rfl
    · rw [upd_ne hk] at hL; rw [e 1 hk]; exact h.v1 hL
  · by_cases hk : 2 = i
    · subst hk; rw [e']; rfl
    · rw [upd_ne hk] at hL; rw [e 2 hk]; exact h.v2 hL
  · rw [upd_ne (by omega)] at hL; rw [e 3 (by omega), upd_ne (show 5 ≠ i by omega)]; exact h.v3 hL
  · rw [upd_ne (by omega)] at hL; rw [e 4 (by omega), upd_ne (show 6 ≠ i by omega)]; exact h.v4 hL
  · rw [e 3 (by omega), e 4 (by omega)] at h1
    rw [upd_ne (by omega)] at h2 h3
    exact h.ne h1 h2 h3
  · rw [upd_ne (by omega)] at h1 ⊢; exact h.d5 h1
  · rw [upd_ne (by omega)] at h1 ⊢; exact h.d6 h1
theorem ptr_inj {g g' : Nat} (h : Value.pointer (some ⟨g, 0, none⟩) = Value.pointer (some ⟨g', 0, none⟩)) : g = g' := by simpa using h
section
variable {w0 w : World} {v : Value} {hs F z8 z64 : List Int} {g3 : Nat} {L : Nat → Bool} {vs : List Value}
theorem MixI.al3 (h : MixI w0 v hs F z8 z64 g3 L vs w) (hl : vs.length = 5) (hL : L 3 = false) : MixI w0 v hs F z8 z64 g3 (upd L 3) (vs.set 3 (.pointer (some ⟨w.heap.size, 0, none⟩))) (w.alloc (.cells (z64.map wv).toArray 171)) := by
  have h5 : L 5 = false := by cases h5 : L 5 with | false => rfl | true => rw [h.d5 h5] at hL; cases hL
  have hn := h.world ((Mod.refl (fun _ => False) w).alloc (.cells (z64.map wv).toArray 171))
  have e : ∀ k, k ≠ 3 → (vs.set 3 (.pointer (some ⟨w.heap.size, 0, none⟩)))[k]? = vs[k]? := fun k hk => List.getElem?_set_ne (Ne.symm hk)
  have e' : (vs.set 3 (.pointer (some ⟨w.heap.size, 0, none⟩)))[3]? = some (.pointer (some ⟨w.heap.size, 0, none⟩)) := List.getElem?_set_self (by omega)
  refine ⟨hn.mod, hn.b3, fun q => ?_, fun q => ?_, fun q => ?_, fun q => ?_, fun q => ?_, fun h1 h2 h3 => ?_, fun q => ?_, fun q => ?_⟩
  · rw [upd_ne (by omega)] at q; rw [e 0 (by omega)]; exact hn.v0 q
  · rw [upd_ne (by omega)] at q; rw [e 1 (by omega)]; exact hn.v1 q
  · rw [upd_ne (by omega)] at q; rw [e 2 (by omega)]; exact hn.v2 q
  · refine ⟨w.heap.size, e', h.mod.size, ?_⟩
    rw [upd_ne (by omega), h5]
    exact Cs.new _ _ _
  · rw [upd_ne (by omega)] at q; rw [e 4 (by omega), upd_ne (show 6 ≠ 3 by omega)]; exact hn.v4 q
  · rw [upd_ne (by omega)] at h3
    obtain ⟨g, a1, a2, a3⟩ := h.v4 h3
    rw [e', e 4 (by omega), a1] at h1
    have := a3.lt
    have := ptr_inj (Option.some.inj h1)
    omega
  · exact upd_eq
  · rw [upd_ne (by omega)] at q ⊢; exact h.d6 q
theorem MixI.al4 (h : MixI w0 v hs F z8 z64 g3 L vs w) (hl : vs.length = 5) (hL : L 4 = false) : MixI w0 v hs F z8 z64 g3 (upd L 4) (vs.set 4 (.pointer (some ⟨w.heap.size, 0, none⟩))) (w.alloc (.cells (z8.map wv).toArray 170)) := by
  have h5 : L 6 = false := by cases h5 : L 6 with | false => rfl | true => rw [h.d6 h5] at hL; cases hL
  have hn := h.world ((Mod.refl (fun _ => False) w).alloc (.cells (z8.map wv).toArray 170))
  have e : ∀ k, k ≠ 4 → (vs.set 4 (.pointer (some ⟨w.heap.size, 0, none⟩)))[k]? = vs[k]? := fun k hk => List.getElem?_set_ne (Ne.symm hk)
  have e' : (vs.set 4 (.pointer (some ⟨w.heap.size, 0, none⟩)))[4]? = some (.pointer (some ⟨w.heap.size, 0, none⟩)) := List.getElem?_set_self (by omega)
  refine ⟨hn.mod, hn.b3, fun q => ?_, fun q => ?_, fun q => ?_, fun q => ?_, fun q => ?_, fun h1 h2 h3 => ?_, fun q => ?_, fun q => ?_⟩
  · rw [upd_ne (by omega)] at q; rw [e 0 (by omega)]; exact hn.v0 q
  · rw [upd_ne (by omega)] at q; rw [e 1 (by omega)]; exact hn.v1 q
  · rw [upd_ne (by omega)] at q; rw [e 2 (by omega)]; exact hn.v2 q
  · rw [upd_ne (by omega)] at q; rw [e 3 (by omega), upd_ne (show 5 ≠ 4 by omega)]; exact hn.v3 q
  · refine ⟨w.heap.size, e', h.mod.size, ?_⟩
    rw [upd_ne (by omega), h5]
    exact Cs.new _ _ _
  · rw [upd_ne (by omega)] at h2
    obtain ⟨g, a1, a2, a3⟩ := h.v3 h2
    rw [e', e 3 (by omega), a1] at h1
    have := a3.lt
    have := ptr_inj (Option.some.inj h1)
    omega
  · rw [upd_ne (by omega)] at q ⊢; exact h.d5 q
  · exact upd_eq
theorem MixI.st (h : MixI w0 v hs F z8 z64 g3 L vs w) (h30 : g3 < w0.heap.size) (i : Nat) (hi : i = 5 ∨ i = 6) {w' : World} {g : Nat} (hg : vs[i - 2]? = some (.pointer (some ⟨g, 0, none⟩))) (hg0 : w0.heap.size ≤ g) (hL3 : L (i - 2) = true)
    (hm : Mod (fun k => k = g) w w') (h5 : i = 5 → Ws 171 w' g F) (h6 : i = 6 → Ws 170 w' g hs) : MixI w0 v hs F z8 z64 g3 (upd L i) vs w' := by
  refine ⟨h.mod.trans hm (fun k hk e => by omega), h.b3.mod hm (by omega), fun q => ?_, fun q => ?_, fun q => ?_, fun q => ?_, fun q => ?_, fun h1 h2 h3 => ?_, fun q => ?_, fun q => ?_⟩
  · rw [upd_ne (by omega)] at q; exact h.v0 q
  · rw [upd_ne (by omega)] at q; exact h.v1 q
  · rw [upd_ne (by omega)] at q; exact h.v2 q
  · rw [upd_ne (by omega)] at q
    obtain ⟨g', a1, a2, a3⟩ := h.v3 q
    refine ⟨g', a1, a2, ?_⟩
    rcases hi with rfl | rfl
    · rw [a1] at hg
      obtain rfl := ptr_inj (Option.some.inj hg)
      rw [upd_eq]
      exact h5 rfl
    · rw [upd_ne (by omega)]
      refine a3.mod hm (fun e => ?_)
      subst e
      exact h.ne (a1.trans hg.symm) q hL3
  · rw [upd_ne (by omega)] at q
    obtain ⟨g', a1, a2, a3⟩ := h.v4 q
    refine ⟨g', a1, a2, ?_⟩
    rcases hi with rfl | rfl
    · rw [upd_ne (by omega)]
      refine a3.mod hm (fun e => ?_)
      subst e
      exact h.ne (hg.trans a1.symm) hL3 q
    · rw [a1] at hg
      obtain rfl := ptr_inj (Option.some.inj hg)
      rw [upd_eq]
      exact h6 rfl
  · rw [upd_ne (by omega)] at h2 h3; exact h.ne h1 h2 h3
  · rcases hi with rfl | rfl
    · rw [upd_ne (by omega)]; exact hL3
    · rw [upd_ne (by omega)] at q ⊢; exact h.d5 q
  · rcases hi with rfl | rfl
    · rw [upd_ne (by omega)] at q ⊢; exact h.d6 q
    · rw [upd_ne (by omega)]; exact hL3
end

def mixT (s : List Int) (k x : Int) : Int := (s.getD 7 0 + xr (xr (rr 6 (s.getD 4 0)) (rr 11 (s.getD 4 0))) (rr 25 (s.getD 4 0)) + xr (an (s.getD 4 0) (s.getD 5 0)) (an (xr 4294967295 (s.getD 4 0)) (s.getD 6 0)) + k + x) % 4294967296
def mixU (s : List Int) : Int := (xr (xr (rr 2 (s.getD 0 0)) (rr 13 (s.getD 0 0))) (rr 22 (s.getD 0 0)) + xr (xr (an (s.getD 0 0) (s.getD 1 0)) (an (s.getD 0 0) (s.getD 2 0))) (an (s.getD 1 0) (s.getD 2 0))) % 4294967296
def mixStep (s : List Int) (k x : Int) : List Int := [pl (mixT s k x) (mixU s), s.getD 0 0, s.getD 1 0, s.getD 2 0, pl (s.getD 3 0) (mixT s k x), s.getD 4 0, s.getD 5 0, s.getD 6 0]
def mixTo (hs ks ws : List Int) (n : Nat) : List Int := (List.range n).foldl (fun s i => mixStep s (ks.getD i 0) (ws.getD i 0)) hs
def addTo (hs s : List Int) (n : Nat) : List Int := (List.range n).foldl (fun h i => h.set i (pl (h.getD i 0) (s.getD i 0))) hs
def mixF (hs ks bs : List Int) : List Int := addTo hs (mixTo hs ks (spreadF bs) 64) 8

/-- what stands in memory while a block is mixed -/
structure MixO (w0 : World) (hs ks F z8 s : List Int) (g7 g8 : Nat) (w : World) : Prop where
  k3 : Ws 170 w w0.heap.size hs
  k4 : Ws 171 w (w0.heap.size + 1) ks
  k6 : Ws 170 w (w0.heap.size + 1 + 1) z8
  k7 : Ws 171 w g7 F
  k8 : Ws 170 w g8 s
  m : Mod (fun _ => False) w0 w
theorem MixO.mod {w0 w w' : World} {hs ks F z8 s : List Int} {g7 g8 : Nat} (h : MixO w0 hs ks F z8 s g7 g8 w) (hm : Mod (fun _ => False) w w') : MixO w0 hs ks F z8 s g7 g8 w' :=
  ⟨h.k3.mod hm (fun h => h), h.k4.mod hm (fun h => h), h.k6.mod hm (fun h => h), h.k7.mod hm (fun h => h), h.k8.mod hm (fun h => h), h.m.trans hm (fun _ _ h => h)⟩
/-- the state is written anew -/
theorem MixO.put {w0 w w' : World} {hs ks F z8 s s' : List Int} {g7 g8 : Nat} (h : MixO w0 hs ks F z8 s g7 g8 w) (h8 : w0.heap.size + 3 ≤ g8) (hne : g7 ≠ g8) (hm : Mod (fun k => k = g8) w w') (hs' : Ws 170 w' g8 s') : MixO w0 hs ks F z8 s' g7 g8 w' :=
  ⟨h.k3.mod hm (by omega), h.k4.mod hm (by omega), h.k6.mod hm (by omega), h.k7.mod hm hne, hs', h.m.trans hm (fun k hk e => by omega)⟩
theorem MixO.put3 {w0 w w' : World} {hs hs' ks F z8 s : List Int} {g7 g8 : Nat} (h : MixO w0 hs ks F z8 s g7 g8 w) (h7 : w0.heap.size + 3 ≤ g7) (h8 : w0.heap.size + 3 ≤ g8) (hm : Mod (fun k => k = w0.heap.size) w w') (hs3 : Ws 170 w' w0.heap.size hs') : MixO w0 hs' ks F z8 s g7 g8 w' :=
  ⟨hs3, h.k4.mod hm (by omega), h.k6.mod hm (by omega), h.k7.mod hm (by omega), h.k8.mod hm (by omega), h.m.trans hm (fun k hk e => by omega)⟩
theorem mixTo_succ (hs ks ws : List Int) (n : Nat) : mixTo hs ks ws (n + 1) = mixStep (mixTo hs ks ws n) (ks.getD n 0) (ws.getD n 0) := by unfold mixTo; rw [List.range_succ, List.foldl_append]; rfl
theorem mixTo_len (hs ks ws : List Int) (h : hs.length = 8) (n : Nat) : (mixTo hs ks ws n).length = 8 := by
  cases n with
  | zero => exact h
  | succ n => rw [mixTo_succ]; rfl
theorem addTo_succ (hs s : List Int) (n : Nat) : addTo hs s (n + 1) = (addTo hs s n).set n (pl ((addTo hs s n).getD n 0) (s.getD n 0)) := by unfold addTo; rw [List.range_succ, List.foldl_append]; rfl
theorem addTo_len (hs s : List Int) (n : Nat) : (addTo hs s n).length = hs.length := by
  induction n with
  | zero => rfl
  | succ n ih => rw [addTo_succ, List.length_set, ih]

set_option maxHeartbeats 2000000 in
theorem mix_any (hs ks : List Int) (hl8 : hs.length = 8) (hl64 : ks.length = 64) (v : Value) (bs : List Int) (w : World) (h : RdB w v bs) (hbl : ∀ g, v.ownBlock = some g → g < w.heap.size) (h64 : 64 ≤ bs.length) :
    Calls Try.prog 136 #[.agg (hs.map wv).toArray, .agg (ks.map wv).toArray, v] w fun e w' => e = .returned (.agg ((mixF hs ks bs).map wv).toArray) ∧ Mod (fun _ => False) w w' := by
  obtain ⟨F, hF⟩ : ∃ F, F = spreadF bs := ⟨_, rfl⟩
  obtain ⟨z8, hz8⟩ : ∃ z, z = List.replicate 8 (0 : Int) := ⟨_, rfl⟩
  obtain ⟨z64, hz64⟩ : ∃ z, z = List.replicate 64 (0 : Int) := ⟨_, rfl⟩
  have hFl : F.length = 64 := by rw [hF]; exact spreadF_len bs
  have hz8l : z8.length = 8 := by rw [hz8]; simp
  have hz64l : z64.length = 64 := by rw [hz64]; simp
  have HR := Lib.hid h
  have HB := Lib.hid hbl
  have HF := Lib.hid hF
  have HZ8 := Lib.hid hz8
  have HZ64 := Lib.hid hz64
  have HL8 := Lib.hid hl8
  have HL64 := Lib.hid hl64
  have HFL := Lib.hid hFl
  have HZ8L := Lib.hid hz8l
  have HZ64L := Lib.hid hz64l
  clear h hbl hF hz8 hz64 hl8 hl64 hFl hz8l hz64l
  go_enter Try.func136, Try.ntmps136
  go_wp2_with fail
  change Code.wp _ _ _ _ (((w.alloc (.cells (hs.map wv).toArray 170)).alloc (.cells (ks.map wv).toArray 171)).alloc (.cells ((List.replicate 8 0).map wv).toArray 170))
  obtain ⟨w1, hw1⟩ : ∃ x, x = (((w.alloc (.cells (hs.map wv).toArray 170)).alloc (.cells (ks.map wv).toArray 171)).alloc (.cells ((List.replicate 8 0).map wv).toArray 170)) := ⟨_, rfl⟩
  have A3 : Ws 170 w1 w.heap.size hs := by rw [hw1]; exact ((Cs.new w _ _).alloc _).alloc _
  have A4 : Ws 171 w1 (w.heap.size + 1) ks := by
    rw [hw1, show w.heap.size + 1 = (w.alloc (.cells (hs.map wv).toArray 170)).heap.size by simp]
    exact (Cs.new _ _ _).alloc _
  have A6 : Ws 170 w1 (w.heap.size + 1 + 1) z8 := by
    rw [hw1, HZ8.out, show w.heap.size + 1 + 1 = ((w.alloc (.cells (hs.map wv).toArray 170)).alloc (.cells (ks.map wv).toArray 171)).heap.size by simp]
    exact Cs.new _ _ _
  have hm1 : Mod (fun _ => False) w w1 := by rw [hw1]; exact (((Mod.refl _ _).alloc _).alloc _).alloc _
  have hs1 : w1.heap.size = w.heap.size + 3 := by rw [hw1]; simp
  rw [← hw1]
  clear hw1
  have K3 := Lib.hid A3
  have K4 := Lib.hid A4
  have K6 := Lib.hid A6
  have KM := Lib.hid hm1
  clear A3 A4 A6 hm1
  generalize ha0 : Act.mk _ _ = a0
  have e2 : a0.eval (.tmp 2) = v := by rw [← ha0]; rfl
  have e3 : a0.eval (.tmp 3) = .pointer (some ⟨w.heap.size, 0, none⟩) := by rw [← ha0]; rfl
  have hsz : a0.tmps.size = 118 := by rw [← ha0]; rfl
  have HA0 := Lib.hid ha0
  clear ha0
  refine wp_region_each (by kernel_rfl) (by kernel_rfl) [17, 18, 19, 7, 8] (MixI w1 v hs F z8 z64 w.heap.size) ?_ ⟨?_, ?_, ?_, ?_, ?_, ?_, ?_, trivial⟩ ?_
  · exact ⟨(Mod.refl _ _).drew, K3.out, (fun h => by cases h), (fun h => by cases h), (fun h => by cases h), (fun h => by cases h), (fun h => by cases h), (fun _ h => by cases h), (fun h => by cases h), (fun h => by cases h)⟩
  · intro L vs w' hL hd hl hI
    exact wpOp_run rfl rfl (ex_move rfl (by rw [eval_out _ _ _ _ (by decide)]; exact e2)) ⟨_, putAll_put _ _ _ 0 17 _ (by decide) hl rfl, by simpa using hl, hI.val hl 0 (by omega) _ rfl⟩
  · intro L vs w' hL hd hl hI
    have h0 := hI.v0 (hd ⟨0, .data⟩ (by simp) rfl)
    have hm := KM.out.trans hI.mod (fun _ _ h => h)
    have hsp := spread_any v bs w' (HR.out.mod hm (fun _ _ _ h => h)) (fun g hg => by have := HB.out g hg; have := hm.size; omega) h64
    refine wpOp_call (args := #[v]) rfl rfl (by rw [ex_callF rfl Try.func155 (by kernel_rfl) (by kernel_rfl)]; simp [eval_in a0 _ vs 0 17 v (by decide) hl rfl (by omega) h0]) hsp ?_
    rintro e w2 ⟨rfl, hm2⟩
    exact ⟨_, rfl, _, putAll_put _ _ _ 1 18 _ (by decide) hl rfl, by simpa using hl, (hI.world hm2).val hl 1 (by omega) _ (by rw [HF.out]; rfl)⟩
  · intro L vs w' hL hd hl hI
    exact wpOp_run rfl rfl (ex_loadA rfl Try.underlying170 rfl (g := w.heap.size) (off := 0) (cs := hs.map wv) (by rw [List.length_map, HL8.out]; exact size_a8) (by rw [eval_out _ _ _ _ (by decide)]; exact e3) (fun j u hu => by rw [Nat.zero_add, Cs.cell hI.b3]; simpa using hu))
      ⟨_, putAll_put _ _ _ 2 19 _ (by decide) hl rfl, by simpa using hl, hI.val hl 2 (by omega) _ rfl⟩
  · intro L vs w' hL hd hl hI
    obtain ⟨info, hi, hz⟩ := zero_of zero_a64
    have hal := hI.al3 hl hL
    rw [HZ64.out, ← repl_eq 64] at hal
    rw [← HZ64.out] at hal
    exact wpOp_run rfl rfl (ex_alloc rfl hi hz) ⟨_, putAll_put _ _ _ 3 7 _ (by decide) hl rfl, by simpa using hl, hal⟩
  · intro L vs w' hL hd hl hI
    obtain ⟨info, hi, hz⟩ := zero_of zero_a8
    have hal := hI.al4 hl hL
    rw [HZ8.out, ← repl_eq 8] at hal
    rw [← HZ8.out] at hal
    exact wpOp_run rfl rfl (ex_alloc rfl hi hz) ⟨_, putAll_put _ _ _ 4 8 _ (by decide) hl rfl, by simpa using hl, hal⟩
  · intro L vs w' hL hd hl hI
    have hL3 := hd ⟨3, .data⟩ (by simp) rfl
    have h1 := hI.v1 (hd ⟨1, .data⟩ (by simp) rfl)
    have h5f : L 5 = false := hL
    obtain ⟨g, a1, a2, a3⟩ := hI.v3 hL3
    rw [h5f] at a3
    refine wpOp_skip rfl rfl (ex_storeA rfl a3 (off := 0) (vs := F.map wv) (by rw [List.length_map, HFL.out]; exact size_a64) (wv_one _) (by simp [HFL.out, HZ64L.out]) (eval_in a0 _ vs 3 7 _ (by decide) hl rfl (by omega) a1) (by rw [eval_in a0 _ vs 1 18 _ (by decide) hl rfl (by omega) h1]; rfl)) ⟨vs, rfl, hl, ?_⟩
    rw [lay_whole _ _ (by simp [HFL.out, HZ64L.out])]
    exact hI.st (by omega) 5 (Or.inl rfl) a1 a2 hL3 setRow_Mod (fun _ => setRow_Cs a3) (fun h => by cases h)
  · intro L vs w' hL hd hl hI
    have hL3 := hd ⟨4, .data⟩ (by simp) rfl
    have h1 := hI.v2 (hd ⟨2, .data⟩ (by simp) rfl)
    have h5f : L 6 = false := hL
    obtain ⟨g, a1, a2, a3⟩ := hI.v4 hL3
    rw [h5f] at a3
    refine wpOp_skip rfl rfl (ex_storeA rfl a3 (off := 0) (vs := hs.map wv) (by rw [List.length_map, HL8.out]; exact size_a8) (wv_one _) (by simp [HL8.out, HZ8L.out]) (eval_in a0 _ vs 4 8 _ (by decide) hl rfl (by omega) a1) (by rw [eval_in a0 _ vs 2 19 _ (by decide) hl rfl (by omega) h1]; rfl)) ⟨vs, rfl, hl, ?_⟩
    rw [lay_whole _ _ (by simp [HL8.out, HZ8L.out])]
    exact hI.st (by omega) 6 (Or.inr rfl) a1 a2 hL3 setRow_Mod (fun h => by cases h) (fun _ => setRow_Cs a3)
  intro L vs w2 hL hl hI
  obtain ⟨g7, a1, a2, a3⟩ := hI.v3 (hL 3 (by decide))
  obtain ⟨g8, b1, b2, b3⟩ := hI.v4 (hL 4 (by decide))
  have hne : g7 ≠ g8 := fun e => hI.ne (by rw [a1, b1, e]) (hL 3 (by decide)) (hL 4 (by decide))
  rw [if_pos (hL 5 (by decide))] at a3
  rw [if_pos (hL 6 (by decide))] at b3
  have hm := hI.mod
  have K3' := Lib.hid (K3.out.mod hm (fun h => h))
  have K4' := Lib.hid (K4.out.mod hm (fun h => h))
  have K6' := Lib.hid (K6.out.mod hm (fun h => h))
  have KM' := Lib.hid (KM.out.trans hm (fun _ _ h => h))
  have K7 := Lib.hid a3
  have K8 := Lib.hid b3
  match vs, hl with
  | [u17, u18, u19, p7, p8], _ =>
  obtain rfl : p7 = _ := Option.some.inj a1
  obtain rfl : p8 = _ := Option.some.inj b1
  have zg7 := a3.lt
  have zg8 := b3.lt
  clear K3 K4 K6 KM a3 b3 hI a1 b1 hL e2 e3 hsz hm
  have ha0 := HA0.out
  subst ha0
  clear HA0
  simp only [putAll, Act.put, List.setIfInBounds_toArray, List.set_cons_zero, List.set_cons_succ]
  have hO : MixO w hs ks F z8 hs g7 g8 w2 := ⟨K3'.out, K4'.out, K6'.out, K7.out, K8.out, KM'.out⟩
  have HO := Lib.hid hO
  clear hO K3' K4' K6' K7 K8 KM'
  have hg7 : w.heap.size + 3 ≤ g7 := by omega
  have hg8 : w.heap.size + 3 ≤ g8 := by omega
  have HNE := Lib.hid hne
  clear hne a2 b2
  go_wp2
  go_loopw [20] (fun t20 wr => ∃ (i : Nat), t20 = .int .i64 i ∧ i ≤ 64 ∧ MixO w hs ks F z8 (mixTo hs ks F i) g7 g8 wr) (fun t20 _ => 64 - (intOf t20).toNat)
  case atStart => exact ⟨0, rfl, by omega, HO.out⟩
  case round =>
    obtain ⟨wi, rfl⟩ : ∃ x, x = wr := ⟨_, rfl⟩
    obtain ⟨i, rfl, hi, hO⟩ := hrel
    have hsl := mixTo_len hs ks F HL8.out i
    have hsucc := mixTo_succ hs ks F i
    obtain ⟨s, hs'⟩ : ∃ s, s = mixTo hs ks F i := ⟨_, rfl⟩
    rw [← hs'] at hO hsl hsucc
    have KO := Lib.hid hO
    have HS := Lib.hid hsucc
    have HSE := Lib.hid hs'
    clear hO hsucc hs'
    by_cases hlt : i < 64
    · match s, hsl with
      | [s0, s1, s2, s3, s4, s5, s6, s7], _ =>
      obtain ⟨k, hk⟩ : ∃ k, k = ks.getD i 0 := ⟨_, rfl⟩
      obtain ⟨x, hx⟩ : ∃ x, x = F.getD i 0 := ⟨_, rfl⟩
      have HK := Lib.hid hk
      have HX := Lib.hid hx
      clear hk hx
      have c0 : wi.cell? ⟨g8, 0, none⟩ = some (wv s0) := KO.out.k8.cell (j := 0) (by simp)
      have c4 : wi.cell? ⟨g8, 4, none⟩ = some (wv s4) := KO.out.k8.cell (j := 4) (by simp)
      go_wp2_with fail
      go_quiet (fail)
      clear c0 c4
      obtain ⟨w3, hw3⟩ : ∃ x, x = wi.drewN nq := ⟨_, rfl⟩
      have KO2 := Lib.hid (KO.out.mod (mod_of_drewN ⟨nq, hw3⟩ (fun _ => False)))
      rw [← hw3]
      clear hw3 KO
      go_wp2_with (first | (go_at_call 156; (with_reducible refine (RL_6 _ _).mono ?_); rintro e w' ⟨rfl, rfl⟩) | (go_at_call 156; (with_reducible refine (RL_11 _ _).mono ?_); rintro e w' ⟨rfl, rfl⟩) | (go_at_call 156; (with_reducible refine (RL_25 _ _).mono ?_); rintro e w' ⟨rfl, rfl⟩))
      have hsg : (if IntKind.u32.signed = true then (-1 : Int) else IntKind.u32.max) = 4294967295 := rfl
      have c5 : w3.cell? ⟨g8, 5, none⟩ = some (wv s5) := KO2.out.k8.cell (j := 5) (by simp)
      have c6 : w3.cell? ⟨g8, 6, none⟩ = some (wv s6) := KO2.out.k8.cell (j := 6) (by simp)
      have c7 : w3.cell? ⟨g8, 7, none⟩ = some (wv s7) := KO2.out.k8.cell (j := 7) (by simp)
      have ck : w3.cell? ⟨w.heap.size + 1, i, none⟩ = some (wv k) := by rw [HK.out]; exact KO2.out.k4.cell (by rw [HL64.out]; omega)
      have cx : w3.cell? ⟨g7, i, none⟩ = some (wv x) := by rw [HX.out]; exact KO2.out.k7.cell (by rw [HFL.out]; omega)
      go_quiet (fail)
      clear c5 c6 c7 ck cx hsg
      obtain ⟨w4, hw4⟩ : ∃ x, x = w3.drewN nq := ⟨_, rfl⟩
      have KO3 := Lib.hid (KO2.out.mod (mod_of_drewN ⟨nq, hw4⟩ (fun _ => False)))
      rw [← hw4]
      clear hw4 KO2
      have c0 : w4.cell? ⟨g8, 0, none⟩ = some (wv s0) := KO3.out.k8.cell (j := 0) (by simp)
      have c1 : w4.cell? ⟨g8, 1, none⟩ = some (wv s1) := KO3.out.k8.cell (j := 1) (by simp)
      have c2 : w4.cell? ⟨g8, 2, none⟩ = some (wv s2) := KO3.out.k8.cell (j := 2) (by simp)
      have c3 : w4.cell? ⟨g8, 3, none⟩ = some (wv s3) := KO3.out.k8.cell (j := 3) (by simp)
      have c4 : w4.cell? ⟨g8, 4, none⟩ = some (wv s4) := KO3.out.k8.cell (j := 4) (by simp)
      have c5 : w4.cell? ⟨g8, 5, none⟩ = some (wv s5) := KO3.out.k8.cell (j := 5) (by simp)
      have c6 : w4.cell? ⟨g8, 6, none⟩ = some (wv s6) := KO3.out.k8.cell (j := 6) (by simp)
      have HF8 := Lib.hid (show 0 + ((mixStep [s0, s1, s2, s3, s4, s5, s6, s7] k x).map wv).length ≤ ([s0, s1, s2, s3, s4, s5, s6, s7].map wv).toArray.size by simp [mixStep])
      have HS8 := Lib.hid (show (Try.prog.info? 170).map (·.size) = some ((mixStep [s0, s1, s2, s3, s4, s5, s6, s7] k x).map wv).length from size_a8)
      have HLY := Lib.hid (lay_whole ([s0, s1, s2, s3, s4, s5, s6, s7].map wv).toArray ((mixStep [s0, s1, s2, s3, s4, s5, s6, s7] k x).map wv) (by simp [mixStep]))
      go_upto_region 10 with (first | (go_at_call 156; (with_reducible refine (RL_2 _ _).mono ?_); rintro e w' ⟨rfl, rfl⟩) | (go_at_call 156; (with_reducible refine (RL_13 _ _).mono ?_); rintro e w' ⟨rfl, rfl⟩) | (go_at_call 156; (with_reducible refine (RL_22 _ _).mono ?_); rintro e w' ⟨rfl, rfl⟩))
      go_wp2_with ((with_reducible show wpList _ _ _ (Oper.mk none (Op.store 170 (.tmp 8) (.tmp 102)) _ _ _ _ :: _) _ _); refine wpList_storeA rfl 170 (.tmp 8) (.tmp 102) rfl KO3.out.k8 (off := 0) (vs := (mixStep [s0, s1, s2, s3, s4, s5, s6, s7] k x).map wv) HS8.out (wv_one _) HF8.out rfl ?_ ?_)
      · dsimp only [Act.eval]
        simp [Value.cells, mixStep, mixT, mixU, pl, xr, an]
        trace_state
      · intro w5 hc5 hm5
        have hk8 : Ws 170 w5 g8 (mixStep [s0, s1, s2, s3, s4, s5, s6, s7] k x) := by unfold Ws; rw [← HLY.out]; exact hc5
        have KO5 := Lib.hid (KO3.out.put hg8 HNE.out hm5 hk8)
        clear hc5 hm5 hk8 KO3 c0 c1 c2 c3 c4 c5 c6
        go_wp2
        go_roundw
        case rel => exact ⟨i + 1, by go_num, by omega, by rw [HS.out, ← HK.out, ← HX.out]; exact KO5.out⟩
        case measure => first | (simp [intOf]; done) | (simp [intOf]; omega)
    · obtain rfl : i = 64 := by omega
      rw [HSE.out] at HS KO
      obtain ⟨S, hS⟩ : ∃ S, S = mixTo hs ks F 64 := ⟨_, rfl⟩
      rw [← hS] at KO
      have hSl : S.length = 8 := by rw [hS]; exact mixTo_len hs ks F HL8.out 64
      have HSS := Lib.hid hS
      have HSL := Lib.hid hSl
      clear hS hSl HS HSE hsl
      rw [show ((64 : Nat) : Int) = 64 from rfl]
      go_wp2
      go_loopw [104] (fun t104 wr => ∃ (i : Nat), t104 = .int .i64 i ∧ i ≤ 8 ∧ MixO w (addTo hs S i) ks F z8 S g7 g8 wr) (fun t104 _ => 8 - (intOf t104).toNat)
      case atStart => exact ⟨0, rfl, by omega, KO.out⟩
      case round =>
        obtain ⟨wj, rfl⟩ : ∃ x, x = wr := ⟨_, rfl⟩
        obtain ⟨i, rfl, hi, hO⟩ := hrel
        clear KO
        have hsl := addTo_len hs S i
        have hsucc := addTo_succ hs S i
        obtain ⟨A, hA⟩ : ∃ A, A = addTo hs S i := ⟨_, rfl⟩
        rw [← hA] at hO hsl hsucc
        rw [HL8.out] at hsl
        have KO := Lib.hid hO
        have HS := Lib.hid hsucc
        have HAL := Lib.hid hsl
        have HAA := Lib.hid hA
        clear hO hsucc hsl hA
        by_cases hlt : i < 8
        · obtain ⟨x, hx⟩ : ∃ x, x = A.getD i 0 := ⟨_, rfl⟩
          obtain ⟨y, hy⟩ : ∃ y, y = S.getD i 0 := ⟨_, rfl⟩
          have c3 : wj.cell? ⟨w.heap.size, i, none⟩ = some (wv x) := by rw [hx]; exact KO.out.k3.cell (by rw [HAL.out]; omega)
          have f3 := KO.out.k3.frozen i
          have c8 : wj.cell? ⟨g8, i, none⟩ = some (wv y) := by rw [hy]; exact KO.out.k8.cell (by rw [HSL.out]; omega)
          rw [← hx, ← hy] at HS
          have HX := Lib.hid hx
          have HY := Lib.hid hy
          have hset := KO.out.k3.set i (pl x y)
          have hm : Mod (fun k => k = w.heap.size) wj (wj.setCell ⟨w.heap.size, i, none⟩ (wv (pl x y))) := Mod.setCell (Mod.refl (fun k => k = w.heap.size) wj) (p := ⟨w.heap.size, i, none⟩) (fun _ => rfl) _
          have hko := KO.out.put3 hg7 hg8 hm hset
          rw [← HS.out] at hko
          have KO2 := Lib.hid hko
          have HV := Lib.hid (show pl x y = IntKind.u32.wrap (x + y) by simp only [pl, IntKind.wrap_u32])
          have b0 : (0 : Int) ≤ i := by omega
          have b1 : (i : Int) < 8 := by omega
          clear hx hy hset hm hko
          go_wp2_with fail
          go_region_law (fail)
          all_goals
            clear c3 f3 c8
            rw [← HV.out]
            go_wp2
            go_roundw
            case rel => exact ⟨i + 1, by go_num, by omega, KO2.out.mod ((Mod.refl (fun _ => False) _).drew)⟩
            case measure => first | (simp [intOf]; done) | (simp [intOf]; omega)
        · obtain rfl : i = 8 := by omega
          have hR : A = mixF hs ks bs := by rw [HAA.out, HSS.out, HF.out]; rfl
          have HRR := Lib.hid hR
          have HCELL := Lib.hid (show ∀ k u, (A.map wv)[k]? = some u → wj.cell? ⟨w.heap.size, 0 + k, none⟩ = some u by
            intro k u hu
            rw [Nat.zero_add, Cs.cell KO.out.k3]
            simpa using hu)
          have HSA := Lib.hid (show (Try.prog.info? 170).map (·.size) = some (A.map wv).length by rw [List.length_map, HAL.out]; exact size_a8)
          have HFA := Lib.hid (show 0 + (A.map wv).length ≤ (z8.map wv).toArray.size by simp [HAL.out, HZ8L.out])
          have HLY := Lib.hid (lay_whole (z8.map wv).toArray (A.map wv) (by simp [HAL.out, HZ8L.out]))
          clear hR
          go_upto_region 17 with (fail)
          go_step
          refine wpList_loadA rfl 170 (.tmp 3) rfl Try.underlying170 rfl (g := w.heap.size) (off := 0) (cs := A.map wv) HSA.out rfl HCELL.out ?_
          simp only [Act.put, List.setIfInBounds_toArray, List.set_cons_zero, List.set_cons_succ]
          refine wpList_storeA rfl 170 (.tmp 6) (.tmp 117) rfl KO.out.k6 (vs := A.map wv) HSA.out (wv_one _) HFA.out rfl rfl ?_
          intro w5 hc5 hm5
          rw [HLY.out] at hc5
          go_wp2
          refine bodyPost_ret (results_cellA rfl _ _ (w.heap.size + 1 + 1) (A.map wv) rfl (fun k u hu => by rw [hc5.cell]; simpa using hu) Try.underlying170 rfl HSA.out) rfl ⟨by rw [HRR.out], KO.out.m.trans (hm5.mono (S' := fun k => k = w.heap.size + 1 + 1) (fun k _ hk => hk)) (by intro k h1 h2; omega)⟩
end Go.Proofs.Ytknpapcfhnhheaa
