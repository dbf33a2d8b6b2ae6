/- Texts that are built one behind the other: XSha3, XSha4, XActs, XLoc, XPlain2, XOwV, XNums, XSha5, XWc, XCm1, XCm2, XSet0, XTy, XPt1, XPt2, XWt1, XRf1, XSha6, XSha7, XVal5. No condition. -/
import Derived.Test.YtgnmdnmmemdemaaR2
import Derived.Deep.RegionHeld3
import Derived.Deep.Cut
import Derived.Lib.BytesEntry
import Derived.Laws.Externs
/- sha.mix: a block goes into the state. -/
set_option maxRecDepth 100000
set_option linter.unusedVariables false
namespace Go.Proofs.Ytgnmdnmmemdemaa
open Go Go.RowKit Go.Gv

theorem zero_of {P : Program} {T : TypeId} {z : Value} (h : (P.info? T).bind (·.zero) = some z) : ∃ info, P.info? T = some info ∧ info.zero = some z := by
  cases hq : P.info? T with
  | none => rw [hq] at h; cases h
  | some i => rw [hq] at h; exact ⟨i, rfl, h⟩
theorem zero_a64 : (Try.prog.info? 127).bind (·.zero) = some (.agg (Array.replicate 64 (wv 0))) := by kernel_rfl
theorem zero_a8 : (Try.prog.info? 125).bind (·.zero) = some (.agg (Array.replicate 8 (wv 0))) := by kernel_rfl
theorem upd_ne {L : Nat → Bool} {i j : Nat} (h : j ≠ i) : upd L i j = L j := by simp [upd, h]
theorem upd_eq {L : Nat → Bool} {i : Nat} : upd L i i = true := by simp [upd]
theorem repl_eq (n : Nat) : (Value.agg (Array.replicate n (wv 0))).cells = ((List.replicate n 0).map wv).toArray := by
  simp only [Value.cells, List.map_replicate]
  rfl

/-- the walk of 'w, s := spread(b), h' -/
structure MixI (w0 : World) (v : Value) (hs F z8 z64 : List Int) (g3 : Nat) (L : Nat → Bool) (vs : List Value) (w : World) : Prop where
  mod : Mod (fun _ => False) w0 w
  b3 : Ws 125 w g3 hs
  v0 : L 0 = true → vs[0]? = some v
  v1 : L 1 = true → vs[1]? = some (.agg (F.map wv).toArray)
  v2 : L 2 = true → vs[2]? = some (.agg (hs.map wv).toArray)
  v3 : L 3 = true → ∃ g, vs[3]? = some (.pointer (some ⟨g, 0, none⟩)) ∧ w0.heap.size ≤ g ∧ Ws 127 w g (if L 5 then F else z64)
  v4 : L 4 = true → ∃ g, vs[4]? = some (.pointer (some ⟨g, 0, none⟩)) ∧ w0.heap.size ≤ g ∧ Ws 125 w g (if L 6 then hs else z8)
  ne : vs[3]? = vs[4]? → L 3 = true → L 4 = true → False
  d5 : L 5 = true → L 3 = true
  d6 : L 6 = true → L 4 = true

theorem MixI.world {w0 w w' : World} {v : Value} {hs F z8 z64 : List Int} {g3 : Nat} {L : Nat → Bool} {vs : List Value} (h : MixI w0 v hs F z8 z64 g3 L vs w) (hm : Mod (fun _ => False) w w') : MixI w0 v hs F z8 z64 g3 L vs w' :=
  ⟨h.mod.trans hm (fun _ _ h => h), h.b3.mod hm (fun h => h), h.v0, h.v1, h.v2,
    fun hL => by obtain ⟨g, h1, h2, h3⟩ := h.v3 hL; exact ⟨g, h1, h2, h3.mod hm (fun h => h)⟩,
    fun hL => by obtain ⟨g, h1, h2, h3⟩ := h.v4 hL; exact ⟨g, h1, h2, h3.mod hm (fun h => h)⟩, h.ne, h.d5, h.d6⟩
/-- a value at a place below the pointers -/
theorem MixI.val {w0 w : World} {v : Value} {hs F z8 z64 : List Int} {g3 : Nat} {L : Nat → Bool} {vs : List Value} (h : MixI w0 v hs F z8 z64 g3 L vs w) (hl : vs.length = 5) (i : Nat) (hi : i < 3) (x : Value)
    (hx : x = [v, .agg (F.map wv).toArray, .agg (hs.map wv).toArray].getD i undef) : MixI w0 v hs F z8 z64 g3 (upd L i) (vs.set i x) w := by
  subst hx
  have e : ∀ k, k ≠ i → (vs.set i ([v, .agg (F.map wv).toArray, .agg (hs.map wv).toArray].getD i undef))[k]? = vs[k]? := fun k hk => List.getElem?_set_ne (Ne.symm hk)
  have e' : (vs.set i ([v, .agg (F.map wv).toArray, .agg (hs.map wv).toArray].getD i undef))[i]? = some ([v, .agg (F.map wv).toArray, .agg (hs.map wv).toArray].getD i undef) := List.getElem?_set_self (by omega)
  refine ⟨h.mod, h.b3, fun hL => ?_, fun hL => ?_, fun hL => ?_, fun hL => ?_, fun hL => ?_, fun h1 h2 h3 => ?_, fun h1 => ?_, fun h1 => ?_⟩
  · by_cases hk : 0 = i
    · subst hk; rw [e']; rfl
    · rw [upd_ne hk] at hL; rw [e 0 hk]; exact h.v0 hL
  · by_cases hk : 1 = i
    · subst hk; rw [e']; rfl
    · rw [upd_ne hk] at hL; rw [e 1 hk]; exact h.v1 hL
  · by_cases hk : 2 = i
    · subst hk; rw [e']; rfl
    · rw [upd_ne hk] at hL; rw [e 2 hk]; exact h.v2 hL
  · rw [upd_ne (by omega)] at hL; rw [e 3 (by omega), upd_ne (show 5 ≠ i by omega)]; exact h.v3 hL
  · rw [upd_ne (by omega)] at hL; rw [e 4 (by omega), upd_ne (show 6 ≠ i by omega)]; exact h.v4 hL
  · rw [e 3 (by omega), e 4 (by omega)] at h1
    rw [upd_ne (by omega)] at h2 h3
    exact h.ne h1 h2 h3
  · rw [upd_ne (by omega)] at h1 ⊢; exact h.d5 h1
  · rw [upd_ne (by omega)] at h1 ⊢; exact h.d6 h1
theorem ptr_inj {g g' : Nat} (h : Value.pointer (some ⟨g, 0, none⟩) = Value.pointer (some ⟨g', 0, none⟩)) : g = g' := by simpa using h
section
variable {w0 w : World} {v : Value} {hs F z8 z64 : List Int} {g3 : Nat} {L : Nat → Bool} {vs : List Value}
theorem MixI.al3 (h : MixI w0 v hs F z8 z64 g3 L vs w) (hl : vs.length = 5) (hL : L 3 = false) : MixI w0 v hs F z8 z64 g3 (upd L 3) (vs.set 3 (.pointer (some ⟨w.heap.size, 0, none⟩))) (w.alloc (.cells (z64.map wv).toArray 127)) := by
  have h5 : L 5 = false := by cases h5 : L 5 with | false => rfl | true => rw [h.d5 h5] at hL; cases hL
  have hn := h.world ((Mod.refl (fun _ => False) w).alloc (.cells (z64.map wv).toArray 127))
  have e : ∀ k, k ≠ 3 → (vs.set 3 (.pointer (some ⟨w.heap.size, 0, none⟩)))[k]? = vs[k]? := fun k hk => List.getElem?_set_ne (Ne.symm hk)
  have e' : (vs.set 3 (.pointer (some ⟨w.heap.size, 0, none⟩)))[3]? = some (.pointer (some ⟨w.heap.size, 0, none⟩)) := List.getElem?_set_self (by omega)
  refine ⟨hn.mod, hn.b3, fun q => ?_, fun q => ?_, fun q => ?_, fun q => ?_, fun q => ?_, fun h1 h2 h3 => ?_, fun q => ?_, fun q => ?_⟩
  · rw [upd_ne (by omega)] at q; rw [e 0 (by omega)]; exact hn.v0 q
  · rw [upd_ne (by omega)] at q; rw [e 1 (by omega)]; exact hn.v1 q
  · rw [upd_ne (by omega)] at q; rw [e 2 (by omega)]; exact hn.v2 q
  · refine ⟨w.heap.size, e', h.mod.size, ?_⟩
    rw [upd_ne (by omega), h5]
    exact Cs.new _ _ _
  · rw [upd_ne (by omega)] at q; rw [e 4 (by omega), upd_ne (show 6 ≠ 3 by omega)]; exact hn.v4 q
  · rw [upd_ne (by omega)] at h3
    obtain ⟨g, a1, a2, a3⟩ := h.v4 h3
    rw [e', e 4 (by omega), a1] at h1
    have := a3.lt
    have := ptr_inj (Option.some.inj h1)
    omega
  · exact upd_eq
  · rw [upd_ne (by omega)] at q ⊢; exact h.d6 q
theorem MixI.al4 (h : MixI w0 v hs F z8 z64 g3 L vs w) (hl : vs.length = 5) (hL : L 4 = false) : MixI w0 v hs F z8 z64 g3 (upd L 4) (vs.set 4 (.pointer (some ⟨w.heap.size, 0, none⟩))) (w.alloc (.cells (z8.map wv).toArray 125)) := by
  have h5 : L 6 = false := by cases h5 : L 6 with | false => rfl | true => rw [h.d6 h5] at hL; cases hL
  have hn := h.world ((Mod.refl (fun _ => False) w).alloc (.cells (z8.map wv).toArray 125))
  have e : ∀ k, k ≠ 4 → (vs.set 4 (.pointer (some ⟨w.heap.size, 0, none⟩)))[k]? = vs[k]? := fun k hk => List.getElem?_set_ne (Ne.symm hk)
  have e' : (vs.set 4 (.pointer (some ⟨w.heap.size, 0, none⟩)))[4]? = some (.pointer (some ⟨w.heap.size, 0, none⟩)) := List.getElem?_set_self (by omega)
  refine ⟨hn.mod, hn.b3, fun q => ?_, fun q => ?_, fun q => ?_, fun q => ?_, fun q => ?_, fun h1 h2 h3 => ?_, fun q => ?_, fun q => ?_⟩
  · rw [upd_ne (by omega)] at q; rw [e 0 (by omega)]; exact hn.v0 q
  · rw [upd_ne (by omega)] at q; rw [e 1 (by omega)]; exact hn.v1 q
  · rw [upd_ne (by omega)] at q; rw [e 2 (by omega)]; exact hn.v2 q
  · rw [upd_ne (by omega)] at q; rw [e 3 (by omega), upd_ne (show 5 ≠ 4 by omega)]; exact hn.v3 q
  · refine ⟨w.heap.size, e', h.mod.size, ?_⟩
    rw [upd_ne (by omega), h5]
    exact Cs.new _ _ _
  · rw [upd_ne (by omega)] at h2
    obtain ⟨g, a1, a2, a3⟩ := h.v3 h2
    rw [e', e 3 (by omega), a1] at h1
    have := a3.lt
    have := ptr_inj (Option.some.inj h1)
    omega
  · rw [upd_ne (by omega)] at q ⊢; exact h.d5 q
  · exact upd_eq
theorem MixI.st (h : MixI w0 v hs F z8 z64 g3 L vs w) (h30 : g3 < w0.heap.size) (i : Nat) (hi : i = 5 ∨ i = 6) {w' : World} {g : Nat} (hg : vs[i - 2]? = some (.pointer (some ⟨g, 0, none⟩))) (hg0 : w0.heap.size ≤ g) (hL3 : L (i - 2) = true)
    (hm : Mod (fun k => k = g) w w') (h5 : i = 5 → Ws 127 w' g F) (h6 : i = 6 → Ws 125 w' g hs) : MixI w0 v hs F z8 z64 g3 (upd L i) vs w' := by
  refine ⟨h.mod.trans hm (fun k hk e => by omega), h.b3.mod hm (by omega), fun q => ?_, fun q => ?_, fun q => ?_, fun q => ?_, fun q => ?_, fun h1 h2 h3 => ?_, fun q => ?_, fun q => ?_⟩
  · rw [upd_ne (by omega)] at q; exact h.v0 q
  · rw [upd_ne (by omega)] at q; exact h.v1 q
  · rw [upd_ne (by omega)] at q; exact h.v2 q
  · rw [upd_ne (by omega)] at q
    obtain ⟨g', a1, a2, a3⟩ := h.v3 q
    refine ⟨g', a1, a2, ?_⟩
    rcases hi with rfl | rfl
    · rw [a1] at hg
      obtain rfl := ptr_inj (Option.some.inj hg)
      rw [upd_eq]
      exact h5 rfl
    · rw [upd_ne (by omega)]
      refine a3.mod hm (fun e => ?_)
      subst e
      exact h.ne (a1.trans hg.symm) q hL3
  · rw [upd_ne (by omega)] at q
    obtain ⟨g', a1, a2, a3⟩ := h.v4 q
    refine ⟨g', a1, a2, ?_⟩
    rcases hi with rfl | rfl
    · rw [upd_ne (by omega)]
      refine a3.mod hm (fun e => ?_)
      subst e
      exact h.ne (hg.trans a1.symm) hL3 q
    · rw [a1] at hg
      obtain rfl := ptr_inj (Option.some.inj hg)
      rw [upd_eq]
      exact h6 rfl
  · rw [upd_ne (by omega)] at h2 h3; exact h.ne h1 h2 h3
  · rcases hi with rfl | rfl
    · rw [upd_ne (by omega)]; exact hL3
    · rw [upd_ne (by omega)] at q ⊢; exact h.d5 q
  · rcases hi with rfl | rfl
    · rw [upd_ne (by omega)] at q ⊢; exact h.d6 q
    · rw [upd_ne (by omega)]; exact hL3
end

def mixT (s : List Int) (k x : Int) : Int := (s.getD 7 0 + xr (xr (rr 6 (s.getD 4 0)) (rr 11 (s.getD 4 0))) (rr 25 (s.getD 4 0)) + xr (an (s.getD 4 0) (s.getD 5 0)) (an (xr 4294967295 (s.getD 4 0)) (s.getD 6 0)) + k + x) % 4294967296
def mixU (s : List Int) : Int := (xr (xr (rr 2 (s.getD 0 0)) (rr 13 (s.getD 0 0))) (rr 22 (s.getD 0 0)) + xr (xr (an (s.getD 0 0) (s.getD 1 0)) (an (s.getD 0 0) (s.getD 2 0))) (an (s.getD 1 0) (s.getD 2 0))) % 4294967296
def mixStep (s : List Int) (k x : Int) : List Int := [pl (mixT s k x) (mixU s), s.getD 0 0, s.getD 1 0, s.getD 2 0, pl (s.getD 3 0) (mixT s k x), s.getD 4 0, s.getD 5 0, s.getD 6 0]
def mixTo (hs ks ws : List Int) (n : Nat) : List Int := (List.range n).foldl (fun s i => mixStep s (ks.getD i 0) (ws.getD i 0)) hs
def addTo (hs s : List Int) (n : Nat) : List Int := (List.range n).foldl (fun h i => h.set i (pl (h.getD i 0) (s.getD i 0))) hs
def mixF (hs ks bs : List Int) : List Int := addTo hs (mixTo hs ks (spreadF bs) 64) 8

/-- what stands in memory while a block is mixed -/
structure MixO (w0 : World) (hs ks F z8 s : List Int) (g7 g8 : Nat) (w : World) : Prop where
  k3 : Ws 125 w w0.heap.size hs
  k4 : Ws 127 w (w0.heap.size + 1) ks
  k6 : Ws 125 w (w0.heap.size + 1 + 1) z8
  k7 : Ws 127 w g7 F
  k8 : Ws 125 w g8 s
  m : Mod (fun _ => False) w0 w
theorem MixO.mod {w0 w w' : World} {hs ks F z8 s : List Int} {g7 g8 : Nat} (h : MixO w0 hs ks F z8 s g7 g8 w) (hm : Mod (fun _ => False) w w') : MixO w0 hs ks F z8 s g7 g8 w' :=
  ⟨h.k3.mod hm (fun h => h), h.k4.mod hm (fun h => h), h.k6.mod hm (fun h => h), h.k7.mod hm (fun h => h), h.k8.mod hm (fun h => h), h.m.trans hm (fun _ _ h => h)⟩
/-- the state is written anew -/
theorem MixO.put {w0 w w' : World} {hs ks F z8 s s' : List Int} {g7 g8 : Nat} (h : MixO w0 hs ks F z8 s g7 g8 w) (h8 : w0.heap.size + 3 ≤ g8) (hne : g7 ≠ g8) (hm : Mod (fun k => k = g8) w w') (hs' : Ws 125 w' g8 s') : MixO w0 hs ks F z8 s' g7 g8 w' :=
  ⟨h.k3.mod hm (by omega), h.k4.mod hm (by omega), h.k6.mod hm (by omega), h.k7.mod hm hne, hs', h.m.trans hm (fun k hk e => by omega)⟩
theorem MixO.put3 {w0 w w' : World} {hs hs' ks F z8 s : List Int} {g7 g8 : Nat} (h : MixO w0 hs ks F z8 s g7 g8 w) (h7 : w0.heap.size + 3 ≤ g7) (h8 : w0.heap.size + 3 ≤ g8) (hm : Mod (fun k => k = w0.heap.size) w w') (hs3 : Ws 125 w' w0.heap.size hs') : MixO w0 hs' ks F z8 s g7 g8 w' :=
  ⟨hs3, h.k4.mod hm (by omega), h.k6.mod hm (by omega), h.k7.mod hm (by omega), h.k8.mod hm (by omega), h.m.trans hm (fun k hk e => by omega)⟩
theorem mixTo_succ (hs ks ws : List Int) (n : Nat) : mixTo hs ks ws (n + 1) = mixStep (mixTo hs ks ws n) (ks.getD n 0) (ws.getD n 0) := by unfold mixTo; rw [List.range_succ, List.foldl_append]; rfl
theorem mixTo_len (hs ks ws : List Int) (h : hs.length = 8) (n : Nat) : (mixTo hs ks ws n).length = 8 := by
  cases n with
  | zero => exact h
  | succ n => rw [mixTo_succ]; rfl
theorem addTo_succ (hs s : List Int) (n : Nat) : addTo hs s (n + 1) = (addTo hs s n).set n (pl ((addTo hs s n).getD n 0) (s.getD n 0)) := by unfold addTo; rw [List.range_succ, List.foldl_append]; rfl
theorem addTo_len (hs s : List Int) (n : Nat) : (addTo hs s n).length = hs.length := by
  induction n with
  | zero => rfl
  | succ n ih => rw [addTo_succ, List.length_set, ih]

set_option maxHeartbeats 2000000 in
theorem mix_any (hs ks : List Int) (hl8 : hs.length = 8) (hl64 : ks.length = 64) (v : Value) (bs : List Int) (w : World) (h : RdB w v bs) (hbl : ∀ g, v.ownBlock = some g → g < w.heap.size) (h64 : 64 ≤ bs.length) :
    Calls Try.prog 81 #[.agg (hs.map wv).toArray, .agg (ks.map wv).toArray, v] w fun e w' => e = .returned (.agg ((mixF hs ks bs).map wv).toArray) ∧ Mod (fun _ => False) w w' := by
  obtain ⟨F, hF⟩ : ∃ F, F = spreadF bs := ⟨_, rfl⟩
  obtain ⟨z8, hz8⟩ : ∃ z, z = List.replicate 8 (0 : Int) := ⟨_, rfl⟩
  obtain ⟨z64, hz64⟩ : ∃ z, z = List.replicate 64 (0 : Int) := ⟨_, rfl⟩
  have hFl : F.length = 64 := by rw [hF]; exact spreadF_len bs
  have hz8l : z8.length = 8 := by rw [hz8]; simp
  have hz64l : z64.length = 64 := by rw [hz64]; simp
  have HR := Lib.hid h
  have HB := Lib.hid hbl
  have HF := Lib.hid hF
  have HZ8 := Lib.hid hz8
  have HZ64 := Lib.hid hz64
  have HL8 := Lib.hid hl8
  have HL64 := Lib.hid hl64
  have HFL := Lib.hid hFl
  have HZ8L := Lib.hid hz8l
  have HZ64L := Lib.hid hz64l
  clear h hbl hF hz8 hz64 hl8 hl64 hFl hz8l hz64l
  go_enter Try.func81, Try.ntmps81
  go_wp2_with fail
  change Code.wp _ _ _ _ (((w.alloc (.cells (hs.map wv).toArray 125)).alloc (.cells (ks.map wv).toArray 127)).alloc (.cells ((List.replicate 8 0).map wv).toArray 125))
  obtain ⟨w1, hw1⟩ : ∃ x, x = (((w.alloc (.cells (hs.map wv).toArray 125)).alloc (.cells (ks.map wv).toArray 127)).alloc (.cells ((List.replicate 8 0).map wv).toArray 125)) := ⟨_, rfl⟩
  have A3 : Ws 125 w1 w.heap.size hs := by rw [hw1]; exact ((Cs.new w _ _).alloc _).alloc _
  have A4 : Ws 127 w1 (w.heap.size + 1) ks := by
    rw [hw1, show w.heap.size + 1 = (w.alloc (.cells (hs.map wv).toArray 125)).heap.size by simp]
    exact (Cs.new _ _ _).alloc _
  have A6 : Ws 125 w1 (w.heap.size + 1 + 1) z8 := by
    rw [hw1, HZ8.out, show w.heap.size + 1 + 1 = ((w.alloc (.cells (hs.map wv).toArray 125)).alloc (.cells (ks.map wv).toArray 127)).heap.size by simp]
    exact Cs.new _ _ _
  have hm1 : Mod (fun _ => False) w w1 := by rw [hw1]; exact (((Mod.refl _ _).alloc _).alloc _).alloc _
  have hs1 : w1.heap.size = w.heap.size + 3 := by rw [hw1]; simp
  rw [← hw1]
  clear hw1
  have K3 := Lib.hid A3
  have K4 := Lib.hid A4
  have K6 := Lib.hid A6
  have KM := Lib.hid hm1
  clear A3 A4 A6 hm1
  generalize ha0 : Act.mk _ _ = a0
  have e2 : a0.eval (.tmp 2) = v := by rw [← ha0]; rfl
  have e3 : a0.eval (.tmp 3) = .pointer (some ⟨w.heap.size, 0, none⟩) := by rw [← ha0]; rfl
  have hsz : a0.tmps.size = 118 := by rw [← ha0]; rfl
  have HA0 := Lib.hid ha0
  clear ha0
  refine wp_region_each (by kernel_rfl) (by kernel_rfl) [17, 18, 19, 7, 8] (MixI w1 v hs F z8 z64 w.heap.size) ?_ ⟨?_, ?_, ?_, ?_, ?_, ?_, ?_, trivial⟩ ?_
  · exact ⟨(Mod.refl _ _).drew, K3.out, (fun h => by cases h), (fun h => by cases h), (fun h => by cases h), (fun h => by cases h), (fun h => by cases h), (fun _ h => by cases h), (fun h => by cases h), (fun h => by cases h)⟩
  · intro L vs w' hL hd hl hI
    exact wpOp_run rfl rfl (ex_move rfl (by rw [eval_out _ _ _ _ (by decide)]; exact e2)) ⟨_, putAll_put _ _ _ 0 17 _ (by decide) hl rfl, by simpa using hl, hI.val hl 0 (by omega) _ rfl⟩
  · intro L vs w' hL hd hl hI
    have h0 := hI.v0 (hd ⟨0, .data⟩ (by simp) rfl)
    have hm := KM.out.trans hI.mod (fun _ _ h => h)
    have hsp := spread_any v bs w' (HR.out.mod hm (fun _ _ _ h => h)) (fun g hg => by have := HB.out g hg; have := hm.size; omega) h64
    refine wpOp_call (args := #[v]) rfl rfl (by rw [ex_callF rfl Try.func89 (by kernel_rfl) (by kernel_rfl)]; simp [eval_in a0 _ vs 0 17 v (by decide) hl rfl (by omega) h0]) hsp ?_
    rintro e w2 ⟨rfl, hm2⟩
    exact ⟨_, rfl, _, putAll_put _ _ _ 1 18 _ (by decide) hl rfl, by simpa using hl, (hI.world hm2).val hl 1 (by omega) _ (by rw [HF.out]; rfl)⟩
  · intro L vs w' hL hd hl hI
    exact wpOp_run rfl rfl (ex_loadA rfl Try.underlying125 rfl (g := w.heap.size) (off := 0) (cs := hs.map wv) (by rw [List.length_map, HL8.out]; exact size_a8) (by rw [eval_out _ _ _ _ (by decide)]; exact e3) (fun j u hu => by rw [Nat.zero_add, Cs.cell hI.b3]; simpa using hu))
      ⟨_, putAll_put _ _ _ 2 19 _ (by decide) hl rfl, by simpa using hl, hI.val hl 2 (by omega) _ rfl⟩
  · intro L vs w' hL hd hl hI
    obtain ⟨info, hi, hz⟩ := zero_of zero_a64
    have hal := hI.al3 hl hL
    rw [HZ64.out, ← repl_eq 64] at hal
    rw [← HZ64.out] at hal
    exact wpOp_run rfl rfl (ex_alloc rfl hi hz) ⟨_, putAll_put _ _ _ 3 7 _ (by decide) hl rfl, by simpa using hl, hal⟩
  · intro L vs w' hL hd hl hI
    obtain ⟨info, hi, hz⟩ := zero_of zero_a8
    have hal := hI.al4 hl hL
    rw [HZ8.out, ← repl_eq 8] at hal
    rw [← HZ8.out] at hal
    exact wpOp_run rfl rfl (ex_alloc rfl hi hz) ⟨_, putAll_put _ _ _ 4 8 _ (by decide) hl rfl, by simpa using hl, hal⟩
  · intro L vs w' hL hd hl hI
    have hL3 := hd ⟨3, .data⟩ (by simp) rfl
    have h1 := hI.v1 (hd ⟨1, .data⟩ (by simp) rfl)
    have h5f : L 5 = false := hL
    obtain ⟨g, a1, a2, a3⟩ := hI.v3 hL3
    rw [h5f] at a3
    refine wpOp_skip rfl rfl (ex_storeA rfl a3 (off := 0) (vs := F.map wv) (by rw [List.length_map, HFL.out]; exact size_a64) (wv_one _) (by simp [HFL.out, HZ64L.out]) (eval_in a0 _ vs 3 7 _ (by decide) hl rfl (by omega) a1) (by rw [eval_in a0 _ vs 1 18 _ (by decide) hl rfl (by omega) h1]; rfl)) ⟨vs, rfl, hl, ?_⟩
    rw [lay_whole _ _ (by simp [HFL.out, HZ64L.out])]
    exact hI.st (by omega) 5 (Or.inl rfl) a1 a2 hL3 setRow_Mod (fun _ => setRow_Cs a3) (fun h => by cases h)
  · intro L vs w' hL hd hl hI
    have hL3 := hd ⟨4, .data⟩ (by simp) rfl
    have h1 := hI.v2 (hd ⟨2, .data⟩ (by simp) rfl)
    have h5f : L 6 = false := hL
    obtain ⟨g, a1, a2, a3⟩ := hI.v4 hL3
    rw [h5f] at a3
    refine wpOp_skip rfl rfl (ex_storeA rfl a3 (off := 0) (vs := hs.map wv) (by rw [List.length_map, HL8.out]; exact size_a8) (wv_one _) (by simp [HL8.out, HZ8L.out]) (eval_in a0 _ vs 4 8 _ (by decide) hl rfl (by omega) a1) (by rw [eval_in a0 _ vs 2 19 _ (by decide) hl rfl (by omega) h1]; rfl)) ⟨vs, rfl, hl, ?_⟩
    rw [lay_whole _ _ (by simp [HL8.out, HZ8L.out])]
    exact hI.st (by omega) 6 (Or.inr rfl) a1 a2 hL3 setRow_Mod (fun h => by cases h) (fun _ => setRow_Cs a3)
  intro L vs w2 hL hl hI
  obtain ⟨g7, a1, a2, a3⟩ := hI.v3 (hL 3 (by decide))
  obtain ⟨g8, b1, b2, b3⟩ := hI.v4 (hL 4 (by decide))
  have hne : g7 ≠ g8 := fun e => hI.ne (by rw [a1, b1, e]) (hL 3 (by decide)) (hL 4 (by decide))
  rw [if_pos (hL 5 (by decide))] at a3
  rw [if_pos (hL 6 (by decide))] at b3
  have hm := hI.mod
  have K3' := Lib.hid (K3.out.mod hm (fun h => h))
  have K4' := Lib.hid (K4.out.mod hm (fun h => h))
  have K6' := Lib.hid (K6.out.mod hm (fun h => h))
  have KM' := Lib.hid (KM.out.trans hm (fun _ _ h => h))
  have K7 := Lib.hid a3
  have K8 := Lib.hid b3
  match vs, hl with
  | [u17, u18, u19, p7, p8], _ =>
  obtain rfl : p7 = _ := Option.some.inj a1
  obtain rfl : p8 = _ := Option.some.inj b1
  have zg7 := a3.lt
  have zg8 := b3.lt
  clear K3 K4 K6 KM a3 b3 hI a1 b1 hL e2 e3 hsz hm
  have ha0 := HA0.out
  subst ha0
  clear HA0
  simp only [putAll, Act.put, List.setIfInBounds_toArray, List.set_cons_zero, List.set_cons_succ]
  have hO : MixO w hs ks F z8 hs g7 g8 w2 := ⟨K3'.out, K4'.out, K6'.out, K7.out, K8.out, KM'.out⟩
  have HO := Lib.hid hO
  clear hO K3' K4' K6' K7 K8 KM'
  have hg7 : w.heap.size + 3 ≤ g7 := by omega
  have hg8 : w.heap.size + 3 ≤ g8 := by omega
  have HNE := Lib.hid hne
  clear hne a2 b2
  go_wp2
  go_loopw [20] (fun t20 wr => ∃ (i : Nat), t20 = .int .i64 i ∧ i ≤ 64 ∧ MixO w hs ks F z8 (mixTo hs ks F i) g7 g8 wr) (fun t20 _ => 64 - (intOf t20).toNat)
  case atStart => exact ⟨0, rfl, by omega, HO.out⟩
  case round =>
    obtain ⟨wi, rfl⟩ : ∃ x, x = wr := ⟨_, rfl⟩
    obtain ⟨i, rfl, hi, hO⟩ := hrel
    have hsl := mixTo_len hs ks F HL8.out i
    have hsucc := mixTo_succ hs ks F i
    obtain ⟨s, hs'⟩ : ∃ s, s = mixTo hs ks F i := ⟨_, rfl⟩
    rw [← hs'] at hO hsl hsucc
    have KO := Lib.hid hO
    have HS := Lib.hid hsucc
    have HSE := Lib.hid hs'
    clear hO hsucc hs'
    by_cases hlt : i < 64
    · match s, hsl with
      | [s0, s1, s2, s3, s4, s5, s6, s7], _ =>
      obtain ⟨k, hk⟩ : ∃ k, k = ks.getD i 0 := ⟨_, rfl⟩
      obtain ⟨x, hx⟩ : ∃ x, x = F.getD i 0 := ⟨_, rfl⟩
      have HK := Lib.hid hk
      have HX := Lib.hid hx
      clear hk hx
      have c0 : wi.cell? ⟨g8, 0, none⟩ = some (wv s0) := KO.out.k8.cell (j := 0) (by simp)
      have c4 : wi.cell? ⟨g8, 4, none⟩ = some (wv s4) := KO.out.k8.cell (j := 4) (by simp)
      go_wp2_with fail
      go_quiet (fail)
      clear c0 c4
      obtain ⟨w3, hw3⟩ : ∃ x, x = wi.drewN nq := ⟨_, rfl⟩
      have KO2 := Lib.hid (KO.out.mod (mod_of_drewN ⟨nq, hw3⟩ (fun _ => False)))
      rw [← hw3]
      clear hw3 KO
      go_wp2_with (first | (go_at_call 90; (with_reducible refine (RL_6 _ _).mono ?_); rintro e w' ⟨rfl, rfl⟩) | (go_at_call 90; (with_reducible refine (RL_11 _ _).mono ?_); rintro e w' ⟨rfl, rfl⟩) | (go_at_call 90; (with_reducible refine (RL_25 _ _).mono ?_); rintro e w' ⟨rfl, rfl⟩))
      have hsg : (if IntKind.u32.signed = true then (-1 : Int) else IntKind.u32.max) = 4294967295 := rfl
      have c5 : w3.cell? ⟨g8, 5, none⟩ = some (wv s5) := KO2.out.k8.cell (j := 5) (by simp)
      have c6 : w3.cell? ⟨g8, 6, none⟩ = some (wv s6) := KO2.out.k8.cell (j := 6) (by simp)
      have c7 : w3.cell? ⟨g8, 7, none⟩ = some (wv s7) := KO2.out.k8.cell (j := 7) (by simp)
      have ck : w3.cell? ⟨w.heap.size + 1, i, none⟩ = some (wv k) := by rw [HK.out]; exact KO2.out.k4.cell (by rw [HL64.out]; omega)
      have cx : w3.cell? ⟨g7, i, none⟩ = some (wv x) := by rw [HX.out]; exact KO2.out.k7.cell (by rw [HFL.out]; omega)
      go_quiet (fail)
      clear c5 c6 c7 ck cx hsg
      obtain ⟨w4, hw4⟩ : ∃ x, x = w3.drewN nq := ⟨_, rfl⟩
      have KO3 := Lib.hid (KO2.out.mod (mod_of_drewN ⟨nq, hw4⟩ (fun _ => False)))
      rw [← hw4]
      clear hw4 KO2
      have c0 : w4.cell? ⟨g8, 0, none⟩ = some (wv s0) := KO3.out.k8.cell (j := 0) (by simp)
      have c1 : w4.cell? ⟨g8, 1, none⟩ = some (wv s1) := KO3.out.k8.cell (j := 1) (by simp)
      have c2 : w4.cell? ⟨g8, 2, none⟩ = some (wv s2) := KO3.out.k8.cell (j := 2) (by simp)
      have c3 : w4.cell? ⟨g8, 3, none⟩ = some (wv s3) := KO3.out.k8.cell (j := 3) (by simp)
      have c4 : w4.cell? ⟨g8, 4, none⟩ = some (wv s4) := KO3.out.k8.cell (j := 4) (by simp)
      have c5 : w4.cell? ⟨g8, 5, none⟩ = some (wv s5) := KO3.out.k8.cell (j := 5) (by simp)
      have c6 : w4.cell? ⟨g8, 6, none⟩ = some (wv s6) := KO3.out.k8.cell (j := 6) (by simp)
      have HF8 := Lib.hid (show 0 + ((mixStep [s0, s1, s2, s3, s4, s5, s6, s7] k x).map wv).length ≤ ([s0, s1, s2, s3, s4, s5, s6, s7].map wv).toArray.size by simp [mixStep])
      have HS8 := Lib.hid (show (Try.prog.info? 125).map (·.size) = some ((mixStep [s0, s1, s2, s3, s4, s5, s6, s7] k x).map wv).length from size_a8)
      have HLY := Lib.hid (lay_whole ([s0, s1, s2, s3, s4, s5, s6, s7].map wv).toArray ((mixStep [s0, s1, s2, s3, s4, s5, s6, s7] k x).map wv) (by simp [mixStep]))
      go_upto_region 10 with (first | (go_at_call 90; (with_reducible refine (RL_2 _ _).mono ?_); rintro e w' ⟨rfl, rfl⟩) | (go_at_call 90; (with_reducible refine (RL_13 _ _).mono ?_); rintro e w' ⟨rfl, rfl⟩) | (go_at_call 90; (with_reducible refine (RL_22 _ _).mono ?_); rintro e w' ⟨rfl, rfl⟩))
      go_wp2_with ((with_reducible show wpList _ _ _ (Oper.mk none (Op.store 125 (.tmp 8) (.tmp 102)) _ _ _ _ :: _) _ _); refine wpList_storeA rfl 125 (.tmp 8) (.tmp 102) rfl KO3.out.k8 (off := 0) (vs := (mixStep [s0, s1, s2, s3, s4, s5, s6, s7] k x).map wv) HS8.out (wv_one _) HF8.out rfl ?_ ?_)
      · dsimp only [Act.eval]
        simp [Value.cells, mixStep, mixT, mixU, pl, xr, an]
        trace_state
      · intro w5 hc5 hm5
        have hk8 : Ws 125 w5 g8 (mixStep [s0, s1, s2, s3, s4, s5, s6, s7] k x) := by unfold Ws; rw [← HLY.out]; exact hc5
        have KO5 := Lib.hid (KO3.out.put hg8 HNE.out hm5 hk8)
        clear hc5 hm5 hk8 KO3 c0 c1 c2 c3 c4 c5 c6
        go_wp2
        go_roundw
        case rel => exact ⟨i + 1, by go_num, by omega, by rw [HS.out, ← HK.out, ← HX.out]; exact KO5.out⟩
        case measure => first | (simp [intOf]; done) | (simp [intOf]; omega)
    · obtain rfl : i = 64 := by omega
      rw [HSE.out] at HS KO
      obtain ⟨S, hS⟩ : ∃ S, S = mixTo hs ks F 64 := ⟨_, rfl⟩
      rw [← hS] at KO
      have hSl : S.length = 8 := by rw [hS]; exact mixTo_len hs ks F HL8.out 64
      have HSS := Lib.hid hS
      have HSL := Lib.hid hSl
      clear hS hSl HS HSE hsl
      rw [show ((64 : Nat) : Int) = 64 from rfl]
      go_wp2
      go_loopw [104] (fun t104 wr => ∃ (i : Nat), t104 = .int .i64 i ∧ i ≤ 8 ∧ MixO w (addTo hs S i) ks F z8 S g7 g8 wr) (fun t104 _ => 8 - (intOf t104).toNat)
      case atStart => exact ⟨0, rfl, by omega, KO.out⟩
      case round =>
        obtain ⟨wj, rfl⟩ : ∃ x, x = wr := ⟨_, rfl⟩
        obtain ⟨i, rfl, hi, hO⟩ := hrel
        clear KO
        have hsl := addTo_len hs S i
        have hsucc := addTo_succ hs S i
        obtain ⟨A, hA⟩ : ∃ A, A = addTo hs S i := ⟨_, rfl⟩
        rw [← hA] at hO hsl hsucc
        rw [HL8.out] at hsl
        have KO := Lib.hid hO
        have HS := Lib.hid hsucc
        have HAL := Lib.hid hsl
        have HAA := Lib.hid hA
        clear hO hsucc hsl hA
        by_cases hlt : i < 8
        · obtain ⟨x, hx⟩ : ∃ x, x = A.getD i 0 := ⟨_, rfl⟩
          obtain ⟨y, hy⟩ : ∃ y, y = S.getD i 0 := ⟨_, rfl⟩
          have c3 : wj.cell? ⟨w.heap.size, i, none⟩ = some (wv x) := by rw [hx]; exact KO.out.k3.cell (by rw [HAL.out]; omega)
          have f3 := KO.out.k3.frozen i
          have c8 : wj.cell? ⟨g8, i, none⟩ = some (wv y) := by rw [hy]; exact KO.out.k8.cell (by rw [HSL.out]; omega)
          rw [← hx, ← hy] at HS
          have HX := Lib.hid hx
          have HY := Lib.hid hy
          have hset := KO.out.k3.set i (pl x y)
          have hm : Mod (fun k => k = w.heap.size) wj (wj.setCell ⟨w.heap.size, i, none⟩ (wv (pl x y))) := Mod.setCell (Mod.refl (fun k => k = w.heap.size) wj) (p := ⟨w.heap.size, i, none⟩) (fun _ => rfl) _
          have hko := KO.out.put3 hg7 hg8 hm hset
          rw [← HS.out] at hko
          have KO2 := Lib.hid hko
          have HV := Lib.hid (show pl x y = IntKind.u32.wrap (x + y) by simp only [pl, IntKind.wrap_u32])
          have b0 : (0 : Int) ≤ i := by omega
          have b1 : (i : Int) < 8 := by omega
          clear hx hy hset hm hko
          go_wp2_with fail
          go_region_law (fail)
          all_goals
            clear c3 f3 c8
            rw [← HV.out]
            go_wp2
            go_roundw
            case rel => exact ⟨i + 1, by go_num, by omega, KO2.out.mod ((Mod.refl (fun _ => False) _).drew)⟩
            case measure => first | (simp [intOf]; done) | (simp [intOf]; omega)
        · obtain rfl : i = 8 := by omega
          have hR : A = mixF hs ks bs := by rw [HAA.out, HSS.out, HF.out]; rfl
          have HRR := Lib.hid hR
          have HCELL := Lib.hid (show ∀ k u, (A.map wv)[k]? = some u → wj.cell? ⟨w.heap.size, 0 + k, none⟩ = some u by
            intro k u hu
            rw [Nat.zero_add, Cs.cell KO.out.k3]
            simpa using hu)
          have HSA := Lib.hid (show (Try.prog.info? 125).map (·.size) = some (A.map wv).length by rw [List.length_map, HAL.out]; exact size_a8)
          have HFA := Lib.hid (show 0 + (A.map wv).length ≤ (z8.map wv).toArray.size by simp [HAL.out, HZ8L.out])
          have HLY := Lib.hid (lay_whole (z8.map wv).toArray (A.map wv) (by simp [HAL.out, HZ8L.out]))
          clear hR
          go_upto_region 17 with (fail)
          go_step
          refine wpList_loadA rfl 125 (.tmp 3) rfl Try.underlying125 rfl (g := w.heap.size) (off := 0) (cs := A.map wv) HSA.out rfl HCELL.out ?_
          simp only [Act.put, List.setIfInBounds_toArray, List.set_cons_zero, List.set_cons_succ]
          refine wpList_storeA rfl 125 (.tmp 6) (.tmp 117) rfl KO.out.k6 (vs := A.map wv) HSA.out (wv_one _) HFA.out rfl rfl ?_
          intro w5 hc5 hm5
          rw [HLY.out] at hc5
          go_wp2
          refine bodyPost_ret (results_cellA rfl _ _ (w.heap.size + 1 + 1) (A.map wv) rfl (fun k u hu => by rw [hc5.cell]; simpa using hu) Try.underlying125 rfl HSA.out) rfl ⟨by rw [HRR.out], KO.out.m.trans (hm5.mono (S' := fun k => k = w.heap.size + 1 + 1) (fun k _ hk => hk)) (by intro k h1 h2; omega)⟩
end Go.Proofs.Ytgnmdnmmemdemaa

/- The rounds' numbers; an element of an array value; SHA-256 in plain words. -/
set_option maxRecDepth 100000
set_option linter.unusedVariables false
namespace Go.Proofs.Ytgnmdnmmemdemaa
open Go Go.RowKit Go.Gv

def K256 : List Int := [1116352408, 1899447441, 3049323471, 3921009573, 961987163, 1508970993, 2453635748, 2870763221, 3624381080, 310598401, 607225278, 1426881987, 1925078388, 2162078206, 2614888103, 3248222580, 3835390401, 4022224774, 264347078, 604807628, 770255983, 1249150122, 1555081692, 1996064986, 2554220882, 2821834349, 2952996808, 3210313671, 3336571891, 3584528711, 113926993, 338241895, 666307205, 773529912, 1294757372, 1396182291, 1695183700, 1986661051, 2177026350, 2456956037, 2730485921, 2820302411, 3259730800, 3345764771, 3516065817, 3600352804, 4094571909, 275423344, 430227734, 506948616, 659060556, 883997877, 958139571, 1322822218, 1537002063, 1747873779, 1955562222, 2024104815, 2227730452, 2361852424, 2428436474, 2756734187, 3204031479, 3329325298]
def H256 : List Int := [1779033703, 3144134277, 1013904242, 2773480762, 1359893119, 2600822924, 528734635, 1541459225]
theorem K256_len : K256.length = 64 := by decide
theorem K256_arr : (K256.map wv).toArray = #[wv 1116352408, wv 1899447441, wv 3049323471, wv 3921009573, wv 961987163, wv 1508970993, wv 2453635748, wv 2870763221, wv 3624381080, wv 310598401, wv 607225278, wv 1426881987, wv 1925078388, wv 2162078206, wv 2614888103, wv 3248222580, wv 3835390401, wv 4022224774, wv 264347078, wv 604807628, wv 770255983, wv 1249150122, wv 1555081692, wv 1996064986, wv 2554220882, wv 2821834349, wv 2952996808, wv 3210313671, wv 3336571891, wv 3584528711, wv 113926993, wv 338241895, wv 666307205, wv 773529912, wv 1294757372, wv 1396182291, wv 1695183700, wv 1986661051, wv 2177026350, wv 2456956037, wv 2730485921, wv 2820302411, wv 3259730800, wv 3345764771, wv 3516065817, wv 3600352804, wv 4094571909, wv 275423344, wv 430227734, wv 506948616, wv 659060556, wv 883997877, wv 958139571, wv 1322822218, wv 1537002063, wv 1747873779, wv 1955562222, wv 2024104815, wv 2227730452, wv 2361852424, wv 2428436474, wv 2756734187, wv 3204031479, wv 3329325298] := rfl
theorem zero64_arr : ((List.replicate 64 0).map wv).toArray = Array.replicate 64 (wv 0) := by rw [List.map_replicate]; rfl

set_option maxHeartbeats 4000000 in
theorem rounds_any (w : World) : Calls Try.prog 80 #[] w fun e w' => e = .returned (.agg (K256.map wv).toArray) ∧ Mod (fun _ => False) w w' := by
  obtain ⟨k, hk⟩ : ∃ k, k = K256 := ⟨_, rfl⟩
  have hl : k.length = 64 := by rw [hk]; exact K256_len
  have ha : (k.map wv).toArray = #[wv 1116352408, wv 1899447441, wv 3049323471, wv 3921009573, wv 961987163, wv 1508970993, wv 2453635748, wv 2870763221, wv 3624381080, wv 310598401, wv 607225278, wv 1426881987, wv 1925078388, wv 2162078206, wv 2614888103, wv 3248222580, wv 3835390401, wv 4022224774, wv 264347078, wv 604807628, wv 770255983, wv 1249150122, wv 1555081692, wv 1996064986, wv 2554220882, wv 2821834349, wv 2952996808, wv 3210313671, wv 3336571891, wv 3584528711, wv 113926993, wv 338241895, wv 666307205, wv 773529912, wv 1294757372, wv 1396182291, wv 1695183700, wv 1986661051, wv 2177026350, wv 2456956037, wv 2730485921, wv 2820302411, wv 3259730800, wv 3345764771, wv 3516065817, wv 3600352804, wv 4094571909, wv 275423344, wv 430227734, wv 506948616, wv 659060556, wv 883997877, wv 958139571, wv 1322822218, wv 1537002063, wv 1747873779, wv 1955562222, wv 2024104815, wv 2227730452, wv 2361852424, wv 2428436474, wv 2756734187, wv 3204031479, wv 3329325298] := by rw [hk]; exact K256_arr
  obtain ⟨z, hz⟩ : ∃ z, z = List.replicate 64 (0 : Int) := ⟨_, rfl⟩
  have hzl : z.length = 64 := by rw [hz]; simp
  rw [← hk]
  have HS := Lib.hid (show (Try.prog.info? 127).map (·.size) = some (k.map wv).length by rw [List.length_map, hl]; exact size_a64)
  have HF := Lib.hid (show 0 + (k.map wv).length ≤ (z.map wv).toArray.size by simp [hl, hzl])
  have HLY := Lib.hid (lay_whole (z.map wv).toArray (k.map wv) (by simp [hl, hzl]))
  have HK := Lib.hid ha
  have HC := Lib.hid (show Cs (w.alloc (.cells (Array.replicate 64 (wv 0)) 127)) w.heap.size (z.map wv).toArray 127 by rw [hz, zero64_arr]; exact Cs.new _ _ _)
  clear hk hl ha hz hzl
  go_enter Try.func80, Try.ntmps80
  go_wp2_with ((with_reducible show wpList _ _ _ (Oper.mk none (Op.store 127 (.tmp 0) (.tmp 1)) _ _ _ _ :: _) _ _); go_must (refine wpList_storeA rfl 127 (.tmp 0) (.tmp 1) rfl HC.out (off := 0) (vs := k.map wv) HS.out (wv_one _) HF.out rfl HK.out.symm ?_))
  intro w5 hc5 hm5
  rw [HLY.out] at hc5
  go_wp2
  refine bodyPost_ret (results_cellA rfl _ _ w.heap.size (k.map wv) rfl (fun j u hu => by rw [hc5.cell]; simpa using hu) Try.underlying127 rfl HS.out) rfl ⟨rfl, ((Mod.refl (fun _ => False) w).alloc _).trans (hm5.mono (S' := fun k => k = w.heap.size) (fun k _ hk => hk)) (by intro k h1 h2; omega)⟩

set_option maxHeartbeats 4000000 in
theorem ref_rounds_any (w : World) : Calls Try.prog 82 #[] w fun e w' => e = .returned (.agg (K256.map wv).toArray) ∧ Mod (fun _ => False) w w' := by
  obtain ⟨k, hk⟩ : ∃ k, k = K256 := ⟨_, rfl⟩
  have hl : k.length = 64 := by rw [hk]; exact K256_len
  have ha : (k.map wv).toArray = #[wv 1116352408, wv 1899447441, wv 3049323471, wv 3921009573, wv 961987163, wv 1508970993, wv 2453635748, wv 2870763221, wv 3624381080, wv 310598401, wv 607225278, wv 1426881987, wv 1925078388, wv 2162078206, wv 2614888103, wv 3248222580, wv 3835390401, wv 4022224774, wv 264347078, wv 604807628, wv 770255983, wv 1249150122, wv 1555081692, wv 1996064986, wv 2554220882, wv 2821834349, wv 2952996808, wv 3210313671, wv 3336571891, wv 3584528711, wv 113926993, wv 338241895, wv 666307205, wv 773529912, wv 1294757372, wv 1396182291, wv 1695183700, wv 1986661051, wv 2177026350, wv 2456956037, wv 2730485921, wv 2820302411, wv 3259730800, wv 3345764771, wv 3516065817, wv 3600352804, wv 4094571909, wv 275423344, wv 430227734, wv 506948616, wv 659060556, wv 883997877, wv 958139571, wv 1322822218, wv 1537002063, wv 1747873779, wv 1955562222, wv 2024104815, wv 2227730452, wv 2361852424, wv 2428436474, wv 2756734187, wv 3204031479, wv 3329325298] := by rw [hk]; exact K256_arr
  obtain ⟨z, hz⟩ : ∃ z, z = List.replicate 64 (0 : Int) := ⟨_, rfl⟩
  have hzl : z.length = 64 := by rw [hz]; simp
  rw [← hk]
  have HS := Lib.hid (show (Try.prog.info? 127).map (·.size) = some (k.map wv).length by rw [List.length_map, hl]; exact size_a64)
  have HF := Lib.hid (show 0 + (k.map wv).length ≤ (z.map wv).toArray.size by simp [hl, hzl])
  have HLY := Lib.hid (lay_whole (z.map wv).toArray (k.map wv) (by simp [hl, hzl]))
  have HK := Lib.hid ha
  have HC := Lib.hid (show Cs (w.alloc (.cells (Array.replicate 64 (wv 0)) 127)) w.heap.size (z.map wv).toArray 127 by rw [hz, zero64_arr]; exact Cs.new _ _ _)
  clear hk hl ha hz hzl
  go_enter Try.func82, Try.ntmps82
  go_wp2_with ((with_reducible show wpList _ _ _ (Oper.mk none (Op.store 127 (.tmp 0) (.tmp 1)) _ _ _ _ :: _) _ _); go_must (refine wpList_storeA rfl 127 (.tmp 0) (.tmp 1) rfl HC.out (off := 0) (vs := k.map wv) HS.out (wv_one _) HF.out rfl HK.out.symm ?_))
  intro w5 hc5 hm5
  rw [HLY.out] at hc5
  go_wp2
  refine bodyPost_ret (results_cellA rfl _ _ w.heap.size (k.map wv) rfl (fun j u hu => by rw [hc5.cell]; simpa using hu) Try.underlying127 rfl HS.out) rfl ⟨rfl, ((Mod.refl (fun _ => False) w).alloc _).trans (hm5.mono (S' := fun k => k = w.heap.size) (fun k _ hk => hk)) (by intro k h1 h2; omega)⟩

theorem wpList_idxA {P : Program} {ops : Array Oper} {rest : List Oper} {o : Oper} {a : Act} {w : World} {Q : Exit → Act → World → Prop} (hgd : o.guard = none) (ty : TypeId) (x y : Operand) (ho : o.op = .index ty x y)
    {e : TypeId} {n : Nat} {k : IntKind} (hu : P.underlying ty = some (.array n e)) (he : P.underlying e = some (.int k)) (hsz : (P.info? e).map (·.size) = some 1) (xs : List Int) (hl : xs.length = n) {j : IntKind} {i : Nat} (hi : i < n)
    (hx : a.eval x = .agg (xs.map (Value.int k)).toArray) (hy : a.eval y = .int j i)
    (h : wpList P ops Q rest (a.put o.dst (.int k (xs.getD i 0))) w) : wpList P ops Q (o :: rest) a w := by
  refine wpList_plain hgd fun K hK => ?_
  have hsz' : (sizeOf e).run P w = .ok 1 w := by
    cases hq : P.info? e with
    | none => simp [hq] at hsz
    | some i => have : i.size = 1 := by simpa [hq] using hsz
                simp [sizeOf, typeInfo, hq, this]
  have hp : (part e (xs.map (Value.int k)).toArray (i * 1)).run P w = .ok (.int k (xs.getD i 0)) w := by
    simp [part, isAgg, run_underlying he, List.getD, List.getElem?_eq_getElem (show i < xs.length by omega)]
  have hr : (Instr.index ty (.agg (xs.map (Value.int k)).toArray) (.int j i)).run P w = .ok (.int k (xs.getD i 0)) w := by
    simp only [Instr.index, asIntOf, Sem.run_bind, Sem.run_pure, Result.andThen_ok, run_underlying hu]
    rw [if_pos (by omega)]
    simp only [Sem.run_bind, hsz', Result.andThen_ok, Int.toNat_natCast, hp]
  unfold Oper.wp execOp
  simp only [ho, hx, hy, Sem.run_bind, Sem.run_pure, Result.andThen_ok, hr]
  exact hK _ _ h
end Go.Proofs.Ytgnmdnmmemdemaa

/- gavellaw01.Act: a call, as an argument holds it. -/
set_option maxRecDepth 100000
set_option linter.unusedVariables false
namespace Go.Proofs.Ytgnmdnmmemdemaa
open Go Go.RowKit Go.Gv Go.ChangeShapes Go.WideShapes Go.ChangeAt Go.Deep

structure Act01 where
  Do : Int
  N : Int
  U : Nat
  VB : Value
  B : List Int
  H : List Int
instance : Inhabited Act01 := ⟨⟨0, 0, 0, .slice none 0 0, [], List.replicate 32 0⟩⟩
def Act01.tail (a : Act01) : List Value := (List.range 32).map fun i => bv (a.H.getD i 0)
def Act01.cells (a : Act01) : List Value := .int .i64 a.Do :: .int .i64 a.N :: .int .u64 a.U :: a.VB :: a.tail
structure Act01.Ok (W : World) (a : Act01) : Prop where
  d : -9223372036854775808 ≤ a.Do ∧ a.Do ≤ 9223372036854775807
  n : -9223372036854775808 ≤ a.N ∧ a.N ≤ 9223372036854775807
  u : a.U < U64
  b : RdR (fun k => k < W.heap.size) a.B.length W a.VB a.B
  h : a.H.length = 32
  hb : Bytes a.H
theorem Act01.len (a : Act01) : a.cells.length = 36 := by simp [Act01.cells, Act01.tail]
end Go.Proofs.Ytgnmdnmmemdemaa

/- Local copies of an Act; lent texts with their blocks. -/
set_option maxRecDepth 100000
set_option linter.unusedVariables false
namespace Go.Proofs.Ytgnmdnmmemdemaa
open Go Go.RowKit Go.Gv

section
variable {α : Type} {s : Nat} {cells : α → List Value} {R R' S : Nat → Prop} {w w' : World} {v : Value} {l : List α}
theorem RdE.shape (h : RdE s cells R w v l) : ∃ ao cap, v = .slice ao l.length cap ∧ l.length ≤ maxLen := by
  rcases h with ⟨rfl, ao, cap, rfl⟩ | ⟨g, o, cap, _, rfl, _, h1, h2, _⟩
  · exact ⟨ao, cap, rfl, by simp⟩
  · exact ⟨_, cap, rfl, by omega⟩
theorem RdE.at {ao : Option Addr} {n cap : Nat} (h : RdE s cells R w (.slice ao n cap) l) {i : Nat} (hi : i < l.length) :
    ∃ g o, ao = some ⟨g, o, none⟩ ∧ ∀ j u, (cells l[i])[j]? = some u → w.cell? ⟨g, o + i * s + j, none⟩ = some u := by
  rcases h with ⟨rfl, _⟩ | ⟨g, o, cap', _, e, _, _, _, h6⟩
  · exact absurd hi (by simp)
  · simp only [Value.slice.injEq] at e
    exact ⟨g, o, e.1, fun j u => h6 i hi j u⟩
theorem RdE.widen (h : RdE s cells R w v l) (hs : ∀ k, R k → R' k) : RdE s cells R' w v l := by
  rcases h with h | ⟨g, o, cap, h1, h2⟩
  · exact .inl h
  · exact .inr ⟨g, o, cap, hs g h1, h2⟩
end

section
variable {R R' S : Nat → Prop} {w w' : World} {g : Nat} {a : Act01}
end
theorem Act01.one {W : World} {a : Act01} (h : a.Ok W) : ∀ u ∈ a.cells, u.oneCell' = true := by
  intro u hu
  obtain ⟨ao, cap, e⟩ := h.b.shape
  simp only [Act01.cells, Act01.tail, List.mem_cons, List.mem_map] at hu
  rcases hu with rfl | rfl | rfl | rfl | ⟨i, _, rfl⟩
  · rfl
  · rfl
  · rfl
  · rw [e]; rfl
  · rfl
/-- a lent text with its block -/
def LentR (R : Nat → Prop) (N : Nat) (w : World) (v : Value) (bs : List Int) : Prop := Lent w v bs ∧ (∀ g, v.ownBlock = some g → R g) ∧ Bytes bs ∧ bs.length ≤ N ∧ N ≤ 1000000
section
variable {R R' S : Nat → Prop} {N M : Nat} {w w' : World} {v : Value} {bs : List Int}
theorem LentR.mod (h : LentR R N w v bs) (hm : Mod S w w') (hs : ∀ k, R k → S k → False) : LentR R N w' v bs := by
  obtain ⟨⟨g, rfl, hc⟩, h2, h3⟩ := h
  exact ⟨⟨g, rfl, hc.mod hm (hs g (h2 g rfl))⟩, h2, h3⟩
theorem LentR.widen (h : LentR R N w v bs) (hs : ∀ k, R k → R' k) (_hM : N ≤ N) : LentR R' N w v bs := ⟨h.1, fun g hg => hs g (h.2.1 g hg), h.2.2⟩
theorem LentR.rd (h : LentR R N w v bs) : RdR R N w v bs := by
  obtain ⟨⟨g, rfl, hc⟩, h2, h3, h4, h5⟩ := h
  refine ⟨⟨h3, ?_⟩, fun _ => h2, h4⟩
  refine Rd.mk (by omega) (by rw [maxLen_val]; omega) (by simp) fun j u hu => ?_
  rw [Nat.zero_add, hc.cell]
  have hj : j < bs.length := by have := (List.getElem?_eq_some_iff.1 hu).1; simpa using this
  simp only [List.getElem?_map, List.getElem?_toArray] at hu ⊢
  rw [← hu]
  congr 1
  unfold lendc
  rw [List.getElem?_append_left hj]
end
end Go.Proofs.Ytgnmdnmmemdemaa

/- What calls write, what is read of it, what is read of a strict beginning of it. -/
set_option maxRecDepth 100000
set_option linter.unusedVariables false
namespace Go.Proofs.Ytgnmdnmmemdemaa
open Go Go.RowKit Go.Gv

theorem RdR.upto {R : Nat → Prop} {N : Nat} {w : World} {ao : Option Addr} {n cap : Nat} {bs : List Int} (h : RdR R N w (.slice ao n cap) bs) (k : Nat) (hk : k ≤ bs.length) : RdR R N w (.slice ao k cap) (bs.take k) := by
  refine ⟨h.1.upto k hk, fun h0 g hg => h.2.1 (by simp at h0; omega) g (by cases ao <;> simp_all [Value.ownBlock]), by have := h.2.2; simp; omega⟩

/-- the state of a reader that has less than all of `full` ahead -/
def SP (s : RSt) (full : List Int) : Prop := s = none ∨ ∃ t, s = some t ∧ t <+: full ∧ t.length < full.length

theorem SP.nil {s : RSt} (h : SP s []) : s = none := by
  rcases h with h | ⟨t, _, _, h⟩
  · exact h
  · simp at h
theorem SP.cut {t a rest : List Int} (h1 : t <+: a ++ rest) (h2 : t.length < (a ++ rest).length) : (t <+: a ∧ t.length < a.length) ∨ ∃ t', t = a ++ t' ∧ SP (some t') rest := by
  rcases Nat.lt_or_ge t.length a.length with h | h
  · exact .inl ⟨List.prefix_of_prefix_length_le h1 (List.prefix_append a rest) (by omega), h⟩
  · obtain ⟨t', rfl⟩ := List.prefix_of_prefix_length_le (List.prefix_append a rest) h1 h
    refine .inr ⟨t', rfl, .inr ⟨t', rfl, (List.prefix_append_right_inj a).1 h1, by simpa using h2⟩⟩

theorem dec_pre : ∀ (m i acc : Nat) (t : List Int), t <+: encN m → t.length < (encN m).length → decGo i acc t = none := by
  intro m
  induction m using Nat.strongRecOn with
  | _ m ih =>
    intro i acc t h1 h2
    by_cases hm : m < 128
    · rw [encN_lt hm] at h2
      obtain rfl : t = [] := List.eq_nil_of_length_eq_zero (by simpa using h2)
      rfl
    · rw [encN_ge (by omega)] at h1 h2
      cases t with
      | nil => rfl
      | cons c t =>
        obtain ⟨rfl, h1'⟩ := List.cons_prefix_cons.1 h1
        simp only [decGo]
        split
        · rfl
        · rw [if_neg (by omega)]
          exact ih (m / 128) (by omega) _ _ t h1' (by simpa using h2)

theorem SP.num {s : RSt} {n : Nat} {rest : List Int} (hn : n < U64) (h : SP s (encN n ++ rest)) : SP (rNum s).2 rest ∧ ((rNum s).2.isSome → (rNum s).1 = n) := by
  rcases h with rfl | ⟨t, rfl, h1, h2⟩
  · exact ⟨.inl rfl, by simp⟩
  · rcases SP.cut h1 h2 with ⟨h3, h4⟩ | ⟨t', rfl, h5⟩
    · have := dec_pre n 0 0 t h3 h4
      simp [rNum, this, SP]
    · rw [rNum_enc hn]
      exact ⟨h5, fun _ => rfl⟩
theorem SP.int {s : RSt} {n : Nat} {rest : List Int} (most : Int) (hn : n < U64) (h : SP s (encN n ++ rest)) : SP (rInt most s).2 rest ∧ ((rInt most s).2.isSome → (rInt most s).1 = n) := by
  have := h.num hn
  unfold rInt
  split
  · exact ⟨.inl rfl, by simp⟩
  · exact this
theorem SP.take {s : RSt} {a rest : List Int} (h : SP s (a ++ rest)) : SP (rTake a.length s).2 rest := by
  rcases h with rfl | ⟨t, rfl, h1, h2⟩
  · exact .inl rfl
  · rcases SP.cut h1 h2 with ⟨h3, h4⟩ | ⟨t', rfl, h5⟩
    · simp [rTake, h4, SP]
    · rw [rTake_app rfl]; exact h5
theorem SP.row {s : RSt} {bs rest : List Int} (most : Int) (hb : bs.length < U64) (h : SP s (encN bs.length ++ bs ++ rest)) : SP (rRow most s).2 rest := by
  rw [List.append_assoc] at h
  have h1 := h.int most hb
  unfold rRow
  cases hs : (rInt most s).2 with
  | none => exact .inl rfl
  | some u =>
    rw [h1.2 (by simp [hs]), ← hs]
    exact h1.1.take
theorem SP.hash {s : RSt} {hh rest : List Int} (hl : hh.length = 32) (h : SP s (hh ++ rest)) : SP (rHash s).2 rest := by
  have h1 := h.take
  rw [hl] at h1
  unfold rHash
  generalize rTake 32 s = q at *
  rcases q with ⟨b, _ | x⟩
  · exact .inl rfl
  · exact h1

section
variable {nm : Int} {row : Nat} {a : Act01}
end
end Go.Proofs.Ytgnmdnmmemdemaa

/- Slices of one-cell values (numbers, slices) that are appended to; an Act's fields in the slice itself. -/
set_option maxRecDepth 100000
set_option linter.unusedVariables false
namespace Go.Proofs.Ytgnmdnmmemdemaa
open Go Go.RowKit Go.Gv

def OwV (e : TypeId) (R : Nat → Prop) (N : Nat) (w : World) (v : Value) (cs : List Value) : Prop := Own (fun u => u.oneCell' = true) e 1 w v cs.length cs ∧ (∀ g, v.ownBlock = some g → R g) ∧ cs.length ≤ N
section
variable {e : TypeId} {R R' S : Nat → Prop} {N M : Nat} {w w' : World} {v : Value} {cs : List Value}
theorem OwV.mod (h : OwV e R N w v cs) (hm : Mod S w w') (hs : ∀ k, R k → S k → False) : OwV e R N w' v cs := ⟨Own.mod h.1 hm (fun g hg hS => hs g (h.2.1 g hg) hS), h.2⟩
theorem OwV.widen (h : OwV e R N w v cs) (hs : ∀ k, R k → R' k) (hM : N ≤ M) : OwV e R' M w v cs := ⟨h.1, fun g hg => hs g (h.2.1 g hg), Nat.le_trans h.2.2 hM⟩
theorem OwV.nil (e : TypeId) (R : Nat → Prop) (w : World) : OwV e R 0 w (.slice none 0 0) [] := ⟨Own.nil _ _ _ _, (fun g hg => by cases hg), Nat.le_refl _⟩
theorem OwV.shape (h : OwV e R N w v cs) : ∃ ao cap, v = .slice ao cs.length cap := Own.shape h.1
theorem OwV.at {ao : Option Addr} {n cap : Nat} (h : OwV e R N w (.slice ao n cap) cs) {i : Nat} (hi : i < cs.length) :
    ∃ g, ao = some ⟨g, 0, none⟩ ∧ ∀ j u, cs[j]? = some u → w.cell? ⟨g, j, none⟩ = some u := by
  obtain ⟨hl, _, ⟨hv, hn⟩ | ⟨g, cap', cur, hv, hg, h1, h2, h3, h4, _⟩⟩ := h.1
  · omega
  · simp only [Value.slice.injEq] at hv
    refine ⟨g, hv.1, fun j u hu => ?_⟩
    rw [hg.cell]
    have hj : j < cs.length := (List.getElem?_eq_some_iff.1 hu).1
    rw [← h4, List.getElem?_take, if_pos (by omega)] at hu
    simpa using hu
end
section
variable {R : Nat → Prop} {w : World} {g o n cap i : Nat} {l : List Act01} {a : Act01}
end
end Go.Proofs.Ytgnmdnmmemdemaa

/- How long a number is; a number that is written longer; a text whose last byte is turned. -/
set_option maxRecDepth 100000
set_option linter.unusedVariables false
namespace Go.Proofs.Ytgnmdnmmemdemaa
open Go Go.RowKit Go.Gv

theorem OwR.last {R : Nat → Prop} {N : Nat} {w : World} {v : Value} {ini : List Int} {d : Int} (h : OwR R N w v (ini ++ [d])) :
    ∃ g cap, v = .slice (some ⟨g, 0, none⟩) (ini.length + 1) cap ∧ R g ∧ g < w.heap.size ∧ w.cell? ⟨g, ini.length, none⟩ = some (bv d) ∧ w.frozen? ⟨g, ini.length, none⟩ = false ∧
      ∀ y : Int, 0 ≤ y → y < 256 → OwR R N (w.setCell ⟨g, ini.length, none⟩ (bv y)) v (ini ++ [y]) := by
  obtain ⟨h1, h2, h3⟩ := h
  have hby := h1.bytes
  obtain ⟨hl, hE, ⟨rfl, hn⟩ | ⟨g, cap, cur, rfl, hc, q1, q2, q3, q4, q5⟩⟩ := h1
  · simp at hn
  · have q3' : cap ≤ cur.size := by omega
    have hlen : (ini ++ [d]).length = ini.length + 1 := by simp
    rw [hlen] at q1 q4 hl
    refine ⟨g, cap, by rw [hlen], h2 g rfl, hc.lt, ?_, hc.frozen _, fun y h0 hy => ⟨?_, h2, by simpa using h3⟩⟩
    · rw [hc.cell]
      have : cur.toList[ini.length]? = some (bv d) := by
        have e : (cur.toList.take ((ini.length + 1) * 1))[ini.length]? = ((ini ++ [d]).map bv)[ini.length]? := by rw [q4]
        rw [List.getElem?_take, if_pos (by omega)] at e
        rw [e]; simp
      simpa using this
    · refine ⟨by simp, ?_, .inr ⟨g, cap, cur.setIfInBounds ini.length (bv y), by simp, hc.set ini.length (bv y), by simpa using q1, q2, by simpa using q3, ?_, ?_⟩⟩
      · refine isB_all ?_
        intro x hx
        rcases List.mem_append.1 hx with h | h
        · exact hby x (List.mem_append_left _ h)
        · simp at h; subst h; exact ⟨h0, hy⟩
      · rw [Array.toList_setIfInBounds]
        have e2 : (ini ++ [y]).length * 1 = (ini.length + 1) * 1 := by simp
        rw [e2, List.take_set, q4, List.map_append, List.map_append]
        rw [List.set_append_right _ _ (by simp)]
        simp
      · intro u hu
        rw [Array.toList_setIfInBounds] at hu
        rcases List.mem_or_eq_of_mem_set hu with h | h
        · exact q5 u h
        · exact ⟨y, h, h0, hy⟩

/-- s = append(s, x): one byte, built into a block of its own -/
theorem wpList_appR1 {w : World} {e' : TypeId} {y : Int} {ops : Array Oper} {rest : List Oper} {o : Oper} {a : Act} {Q : Exit → Act → World → Prop} (hgd : o.guard = none) (s x : Operand)
    (ho : o.op = .call { callee := .builtin .append, args := #[s, x], argTypes := #[36, 36] })
    {R : Nat → Prop} {N : Nat} {v : Value} {bs : List Int} (hs : a.eval s = v) (hown : OwR R N w v bs) (hx : a.eval x = .slice (some ⟨w.heap.size, 0, none⟩) 1 1) (h0 : 0 ≤ y) (h1 : y < 256)
    (hroom : N + 1 ≤ 1000000)
    (h : ∀ ao cap w', OwR (fun k => R k ∨ New w w' k) (N + 1) w' (.slice ao (bs.length + 1) cap) (bs ++ [y]) → Mod R w w' → wpList Try.prog ops Q rest (a.put o.dst (.slice ao (bs.length + 1) cap)) w') :
    wpList Try.prog ops Q (o :: rest) a (w.alloc (.cells #[bv y] e')) := by
  have hsz : (w.alloc (.cells #[bv y] e')).heap.size = w.heap.size + 1 := by simp
  refine wpList_appR hgd s x ho hs (hown.mod (S := fun _ => False) ((Mod.refl _ _).alloc _) (fun _ _ h => h)) (xv := .slice (some ⟨w.heap.size, 0, none⟩) 1 1) (new := [y]) (R' := fun _ => True) (M := 1) hx ⟨RdB_one w h0 h1 e', fun _ _ _ => trivial, Nat.le_refl _⟩ hroom ?_
  intro ao cap w' hq hm
  refine h ao cap w' (hq.widen (fun k hk => ?_) (Nat.le_refl _)) (((Mod.refl R w).alloc _).trans hm (fun _ _ h => h))
  rcases hk with hk | hk
  · exact .inl hk
  · unfold New at hk ⊢; exact .inr ⟨by omega, hk.2⟩
end Go.Proofs.Ytgnmdnmmemdemaa

/- sha.Sum. -/
set_option maxRecDepth 100000
set_option linter.unusedVariables false
namespace Go.Proofs.Ytgnmdnmmemdemaa
open Go Go.RowKit Go.Gv

def padZ (n : Nat) : Nat := (119 - n % 64) % 64
def padded (bs : List Int) (j : Nat) : List Int := bs ++ [128] ++ List.replicate j 0
def lenB (n i : Nat) : Int := ((n : Int) * 8) / 2 ^ (56 - 8 * i) % 256
def fullTo (bs : List Int) (i : Nat) : List Int := padded bs (padZ bs.length) ++ (List.range i).map (lenB bs.length)
def fullB (bs : List Int) : List Int := fullTo bs 8
def blocksTo (fb : List Int) (t : Nat) : List Int := (List.range t).foldl (fun h j => mixF h K256 (fb.drop (64 * j))) H256
def outB (h : List Int) (q : Nat) : Int := (h.getD (q / 4) 0) / 2 ^ (24 - 8 * (q % 4)) % 256
def shaF (bs : List Int) : List Int := (List.range 32).map (outB (blocksTo (fullB bs) ((fullB bs).length / 64)))
theorem padded_len (bs : List Int) (j : Nat) : (padded bs j).length = bs.length + 1 + j := by simp [padded]; omega
theorem padded_succ (bs : List Int) (j : Nat) : padded bs j ++ [0] = padded bs (j + 1) := by
  unfold padded
  rw [List.append_assoc, List.replicate_succ']
theorem pad_iff {n j : Nat} (h : j ≤ padZ n) : (n + 1 + j) % 64 = 56 ↔ j = padZ n := by unfold padZ at *; omega
theorem fullTo_len (bs : List Int) (i : Nat) : (fullTo bs i).length = bs.length + 1 + padZ bs.length + i := by unfold fullTo; rw [List.length_append, padded_len]; simp
theorem fullTo_succ (bs : List Int) (i : Nat) : fullTo bs i ++ [lenB bs.length i] = fullTo bs (i + 1) := by
  unfold fullTo
  rw [List.append_assoc, List.range_succ, List.map_append]
  rfl
theorem full_div (bs : List Int) : (fullB bs).length % 64 = 0 := by unfold fullB; rw [fullTo_len]; unfold padZ; omega
theorem lenB_byte (n i : Nat) : 0 ≤ lenB n i ∧ lenB n i < 256 := by unfold lenB; omega
theorem blocks_succ (fb : List Int) (t : Nat) : blocksTo fb (t + 1) = mixF (blocksTo fb t) K256 (fb.drop (64 * t)) := by unfold blocksTo; rw [List.range_succ, List.foldl_append]; rfl
theorem mixF_len (h k b : List Int) (hl : h.length = 8) : (mixF h k b).length = 8 := by unfold mixF; rw [addTo_len, hl]
theorem blocks_len (fb : List Int) (t : Nat) : (blocksTo fb t).length = 8 := by
  induction t with
  | zero => rfl
  | succ t ih => rw [blocks_succ, mixF_len _ _ _ ih]
theorem shaF_len (bs : List Int) : (shaF bs).length = 32 := by simp [shaF]
theorem outB_byte (h : List Int) (q : Nat) : 0 ≤ outB h q ∧ outB h q < 256 := by unfold outB; omega
theorem shaF_bytes (bs : List Int) : Bytes (shaF bs) := by
  intro x hx
  obtain ⟨q, _, rfl⟩ := List.mem_map.1 hx
  exact outB_byte _ _

theorem Cs_new1 (w : World) (o : Obj) (c : Array Value) (e : TypeId) : Cs ((w.alloc o).alloc (.cells c e)) (w.heap.size + 1) c e := by
  have := Cs.new (w.alloc o) c e
  rwa [show (w.alloc o).heap.size = w.heap.size + 1 by simp] at this
def lenOf : Value → Nat
  | .slice _ n _ => n
  | _ => 0
def outTo (h : List Int) (q : Nat) : List Int := (List.range q).map (outB h) ++ List.replicate (32 - q) 0
theorem outTo_len (h : List Int) (q : Nat) (hq : q ≤ 32) : (outTo h q).length = 32 := by simp [outTo]; omega
theorem outTo_succ (h : List Int) (q : Nat) (hq : q < 32) : (outTo h q).set q (outB h q) = outTo h (q + 1) := by
  unfold outTo
  rw [List.set_append_right _ _ (by simp), List.length_map, List.length_range, Nat.sub_self, List.range_succ, List.map_append, List.append_assoc]
  congr 1
  obtain ⟨k, hk⟩ : ∃ k, 32 - q = k + 1 := ⟨31 - q, by omega⟩
  rw [hk, show 32 - (q + 1) = k by omega, List.replicate_succ]
  rfl
theorem outB_at (h : List Int) (i j : Nat) (hj : j < 4) : outB h (4 * i + j) = (h.getD i 0) / 2 ^ (24 - 8 * j) % 256 := by
  unfold outB
  rw [show (4 * i + j) / 4 = i by omega, show (4 * i + j) % 4 = j by omega]
theorem Cs_setB {w : World} {g : Nat} {bs : List Int} {e : TypeId} (h : Cs w g (bs.map bv).toArray e) (j : Nat) (x : Int) : Cs (w.setCell ⟨g, j, none⟩ (bv x)) g ((bs.set j x).map bv).toArray e := by
  have := h.set j (bv x)
  simpa [List.map_set] using this
structure SumO (w0 : World) (h : List Int) (w : World) : Prop where
  k2 : Cs w w0.heap.size ((List.replicate 32 0).map bv).toArray 28
  k3 : Ws 125 w (w0.heap.size + 1) h
  m : Mod (fun _ => False) w0 w
theorem SumO.mod {S : Nat → Prop} {w0 w w' : World} {h : List Int} (o : SumO w0 h w) (hm : Mod S w w') (hS : ∀ k, S k → w0.heap.size + 2 ≤ k) : SumO w0 h w' :=
  ⟨o.k2.mod hm (fun q => by have := hS _ q; omega), o.k3.mod hm (fun q => by have := hS _ q; omega), o.m.trans hm (fun k hk q => by have := hS _ q; omega)⟩
theorem SumO.put {w0 w w' : World} {h h' : List Int} (o : SumO w0 h w) (hm : Mod (fun k => k = w0.heap.size + 1) w w') (hs : Ws 125 w' (w0.heap.size + 1) h') : SumO w0 h' w' :=
  ⟨o.k2.mod hm (by omega), hs, o.m.trans hm (fun k hk q => by omega)⟩
/-- the padded bytes, in blocks of their own -/
def FulO (w0 : World) (w : World) (v : Value) (bs : List Int) : Prop := OwR (fun k => w0.heap.size + 2 ≤ k) bs.length w v bs
theorem FulO.mod {S : Nat → Prop} {w0 w w' : World} {v : Value} {bs : List Int} (o : FulO w0 w v bs) (hm : Mod S w w') (hS : ∀ k, S k → k < w0.heap.size + 2) : FulO w0 w' v bs := OwR.mod o hm (fun k h1 h2 => by have := hS k h2; omega)

set_option maxHeartbeats 4000000 in
theorem Sum_any (v : Value) (bs : List Int) (w : World) (h : RdB w v bs) (hlen : bs.length ≤ 900000) :
    Calls Try.prog 61 #[v] w fun e w' => e = .returned (hv (shaF bs)) ∧ Mod (fun _ => False) w w' := by
  have hbl := h.block_lt
  have HR := Lib.hid (show RdR (fun k => k < w.heap.size) bs.length w v bs from ⟨h, hbl, Nat.le_refl _⟩)
  obtain ⟨ao, cap, rfl, -, -⟩ := h.shape
  clear h hbl
  go_enter Try.func61, Try.ntmps61
  go_wp2_with ((with_reducible show wpList _ _ _ (Oper.mk none (Op.store 125 (.tmp 3) (.tmp 12)) _ _ _ _ :: _) _ _); go_must (refine wpList_storeA rfl 125 (.tmp 3) (.tmp 12) rfl (Cs_new1 _ _ _ _) (off := 0) (vs := H256.map wv) size_a8 (wv_one _) (by decide) rfl rfl ?_))
  intro w1 hc1 hm1
  rw [lay_whole _ _ (by decide)] at hc1
  have hO : SumO w H256 w1 := by
    refine ⟨?_, ?_, (((Mod.refl _ _).alloc _).alloc _).trans hm1 (by intro k h1 h2; (try dsimp only at h2); omega)⟩
    · refine Cs.mod (((Cs.new w _ _).alloc _)) hm1 (by simp)
    · exact hc1
  have KO := Lib.hid hO
  have z1 : w.heap.size + 2 ≤ w1.heap.size := by have := hO.k3.lt; omega
  clear hO hc1 hm1
  have HR1 := Lib.hid (HR.out.mod KO.out.m (fun _ _ h => h))
  go_wp2_with (at_builtin; go_must (refine wpList_appR rfl (.const (.slice none 0 0)) (.tmp 13) rfl rfl (R := fun k => w.heap.size + 2 ≤ k) (N := 0) (bs := []) ⟨OwnB.nil _, (fun g hg => by cases hg), Nat.le_refl _⟩ rfl HR1.out (by omega) ?_))
  intro ao2 cap2 w2 hq2 hm2
  have KO2 := Lib.hid (KO.out.mod hm2 (fun k hk => hk))
  have z2 := hm2.size
  have HQ2 := Lib.hid (show FulO w w2 (.slice ao2 bs.length cap2) bs from ⟨hq2.1, fun g hg => by have := hq2.2.1 g hg; unfold New at this; omega, Nat.le_refl _⟩)
  clear hq2 hm2 KO HR1
  go_wp2_with (at_builtin; go_must (refine wpList_appR1 rfl (.tmp 14) (.tmp 15) rfl rfl HQ2.out rfl (by omega) (by omega) (by omega) ?_))
  intro ao3 cap3 w3 hq3 hm3
  have KO3 := Lib.hid (KO2.out.mod hm3 (fun k hk => hk))
  have z3 := hm3.size
  have HQ3 := Lib.hid (show FulO w w3 (.slice ao3 (bs.length + 1) cap3) (padded bs 0) from ⟨by have := hq3.1; simpa [padded] using this, fun g hg => by have := hq3.2.1 g hg; unfold New at this; omega, by rw [padded_len]; omega⟩)
  clear hq3 hm3 KO2 HQ2
  have hz : padZ bs.length ≤ 63 := by unfold padZ; omega
  go_wp2
  go_loopw [4] (fun t4 wr => ∃ (j : Nat) (ao : Option Addr) (cap : Nat), t4 = .slice ao (bs.length + 1 + j) cap ∧ j ≤ padZ bs.length ∧ FulO w wr (.slice ao (bs.length + 1 + j) cap) (padded bs j) ∧ SumO w H256 wr) (fun t4 _ => bs.length + 1 + padZ bs.length - lenOf t4)
  case atStart => exact ⟨0, ao3, cap3, rfl, by omega, HQ3.out, KO3.out⟩
  case round =>
    obtain ⟨j, ao4, cap4, rfl, hj, hF, hO⟩ := hrel
    have hiff := pad_iff hj
    have KF := Lib.hid hF
    have KO := Lib.hid hO
    have zr := hO.k3.lt
    clear hF hO HQ3 KO3
    obtain ⟨n, hn⟩ : ∃ n, n = bs.length + 1 + j := ⟨_, rfl⟩
    rw [← hn] at KF hiff
    rw [← hn]
    have HN := Lib.hid hn
    have hnb : n ≤ 950000 := by omega
    clear hn
    by_cases hlt : j < padZ bs.length
    · have h56 : ¬ ((n : Int) % 64 = 56) := by omega
      clear hiff
      go_wp2_with (at_builtin; go_must (refine wpList_appR1 rfl (.tmp 21) (.tmp 22) rfl rfl KF.out rfl (by omega) (by omega) (by rw [padded_len]; omega) ?_))
      intro ao5 cap5 w5 hq5 hm5
      have KO5 := Lib.hid (KO.out.mod hm5 (fun k hk => hk))
      have z5 := hm5.size
      rw [padded_succ] at hq5
      have hl5 : (padded bs j).length = n := by rw [padded_len, HN.out]
      rw [hl5] at hq5 ⊢
      have hl6 := padded_len bs (j + 1)
      have HQ5 := Lib.hid (show FulO w w5 (.slice ao5 (n + 1) cap5) (padded bs (j + 1)) from ⟨hq5.1, fun g hg => by have := hq5.2.1 g hg; unfold New at this; omega, Nat.le_refl _⟩)
      clear hq5 hm5 hl5 hl6
      go_wp2
      go_roundw
      case rel => exact ⟨j + 1, ao5, cap5, by rw [HN.out, ← Nat.add_assoc], by omega, by have := HQ5.out; rw [HN.out, Nat.add_assoc] at this; exact this, KO5.out⟩
      case measure => have := HN.out; simp [lenOf]; omega
    · obtain rfl : j = padZ bs.length := by omega
      have h56 : (n : Int) % 64 = 56 := by omega
      have hl4 : (padded bs (padZ bs.length)).length = n := by rw [padded_len, HN.out]
      clear hiff
      go_wp2
      obtain ⟨x, hx⟩ : ∃ x : Int, x = (bs.length : Int) * 8 := ⟨_, rfl⟩
      rw [← hx]
      have HX := Lib.hid hx
      have HL4 := Lib.hid hl4
      clear hx hl4 h56
      have hfz : FulO w wr (.slice ao4 n cap4) (fullTo bs 0) := by have := KF.out; rw [show fullTo bs 0 = padded bs (padZ bs.length) by simp [fullTo]]; exact this
      have HF0 := Lib.hid hfz
      clear hfz KF
      go_loopw [4, 28] (fun t4 t28 wr => ∃ (i : Nat) (ao : Option Addr) (cap : Nat), t28 = .int .i64 i ∧ i ≤ 8 ∧ t4 = .slice ao (n + i) cap ∧ FulO w wr (.slice ao (n + i) cap) (fullTo bs i) ∧ SumO w H256 wr) (fun _ t28 _ => 8 - (intOf t28).toNat)
      case atStart => exact ⟨0, ao4, cap4, rfl, by omega, rfl, HF0.out, KO.out⟩
      case round =>
        obtain ⟨wi, rfl⟩ : ∃ x, x = wr := ⟨_, rfl⟩
        obtain ⟨i, ao6, cap6, rfl, hi, rfl, hF, hO⟩ := hrel
        clear KO HF0
        have KF := Lib.hid hF
        have KO := Lib.hid hO
        have zr2 := hO.k3.lt
        clear hF hO
        have hfl := fullTo_len bs i
        have hfl2 : (fullTo bs i).length = n + i := by rw [hfl, HN.out]
        have HFL := Lib.hid hfl2
        clear hfl hfl2
        by_cases hlt2 : i < 8
        · have hlb := lenB_byte bs.length i
          have hlv : lenB bs.length i = x / 2 ^ (56 - 8 * i) % 256 := by rw [HX.out]; rfl
          obtain ⟨y, hy⟩ : ∃ y, y = lenB bs.length i := ⟨_, rfl⟩
          rw [← hy] at hlb hlv
          have HY := Lib.hid hy
          have HV := Lib.hid hlv
          clear hy hlv
          have HI := Lib.hid (show i < 8 from hlt2)
          match i, hlt2 with
          | 0, _ =>
            have hv : y = x / 72057594037927936 % 256 := by rw [HV.out]; simp
            have HVV := Lib.hid hv
            rw [hv] at hlb
            clear hv
            go_wp2_with (at_builtin; go_must (refine wpList_appR1 rfl (.tmp 31) (.tmp 38) rfl rfl KF.out rfl hlb.1 hlb.2 (by rw [HFL.out]; omega) ?_))
            intro ao7 cap7 w7 hq7 hm7
            have KO7 := Lib.hid (KO.out.mod hm7 (fun k hk => hk))
            have z7 := hm7.size
            rw [← HVV.out, HY.out, fullTo_succ, HFL.out] at hq7
            rw [HFL.out]
            have hl7 := fullTo_len bs (0 + 1)
            have hl8 := HN.out
            have HQ7 := Lib.hid (show FulO w w7 (.slice ao7 (n + 0 + 1) cap7) (fullTo bs (0 + 1)) from ⟨hq7.1, fun g hg => by have := hq7.2.1 g hg; unfold New at this; omega, Nat.le_refl _⟩)
            clear hq7 hm7 hl7 hl8 hlb
            go_wp2
            go_roundw
            case rel => exact ⟨0 + 1, ao7, cap7, by go_num, by omega, rfl, HQ7.out, KO7.out⟩
            case measure => first | (simp [intOf]; done) | (simp [intOf]; omega)
          | 1, _ =>
            have hv : y = x / 281474976710656 % 256 := by rw [HV.out]; simp
            have HVV := Lib.hid hv
            rw [hv] at hlb
            clear hv
            go_wp2_with (at_builtin; go_must (refine wpList_appR1 rfl (.tmp 31) (.tmp 38) rfl rfl KF.out rfl hlb.1 hlb.2 (by rw [HFL.out]; omega) ?_))
            intro ao7 cap7 w7 hq7 hm7
            have KO7 := Lib.hid (KO.out.mod hm7 (fun k hk => hk))
            have z7 := hm7.size
            rw [← HVV.out, HY.out, fullTo_succ, HFL.out] at hq7
            rw [HFL.out]
            have hl7 := fullTo_len bs (1 + 1)
            have hl8 := HN.out
            have HQ7 := Lib.hid (show FulO w w7 (.slice ao7 (n + 1 + 1) cap7) (fullTo bs (1 + 1)) from ⟨hq7.1, fun g hg => by have := hq7.2.1 g hg; unfold New at this; omega, Nat.le_refl _⟩)
            clear hq7 hm7 hl7 hl8 hlb
            go_wp2
            go_roundw
            case rel => exact ⟨1 + 1, ao7, cap7, by go_num, by omega, rfl, HQ7.out, KO7.out⟩
            case measure => first | (simp [intOf]; done) | (simp [intOf]; omega)
          | 2, _ =>
            have hv : y = x / 1099511627776 % 256 := by rw [HV.out]; simp
            have HVV := Lib.hid hv
            rw [hv] at hlb
            clear hv
            go_wp2_with (at_builtin; go_must (refine wpList_appR1 rfl (.tmp 31) (.tmp 38) rfl rfl KF.out rfl hlb.1 hlb.2 (by rw [HFL.out]; omega) ?_))
            intro ao7 cap7 w7 hq7 hm7
            have KO7 := Lib.hid (KO.out.mod hm7 (fun k hk => hk))
            have z7 := hm7.size
            rw [← HVV.out, HY.out, fullTo_succ, HFL.out] at hq7
            rw [HFL.out]
            have hl7 := fullTo_len bs (2 + 1)
            have hl8 := HN.out
            have HQ7 := Lib.hid (show FulO w w7 (.slice ao7 (n + 2 + 1) cap7) (fullTo bs (2 + 1)) from ⟨hq7.1, fun g hg => by have := hq7.2.1 g hg; unfold New at this; omega, Nat.le_refl _⟩)
            clear hq7 hm7 hl7 hl8 hlb
            go_wp2
            go_roundw
            case rel => exact ⟨2 + 1, ao7, cap7, by go_num, by omega, rfl, HQ7.out, KO7.out⟩
            case measure => first | (simp [intOf]; done) | (simp [intOf]; omega)
          | 3, _ =>
            have hv : y = x / 4294967296 % 256 := by rw [HV.out]; simp
            have HVV := Lib.hid hv
            rw [hv] at hlb
            clear hv
            go_wp2_with (at_builtin; go_must (refine wpList_appR1 rfl (.tmp 31) (.tmp 38) rfl rfl KF.out rfl hlb.1 hlb.2 (by rw [HFL.out]; omega) ?_))
            intro ao7 cap7 w7 hq7 hm7
            have KO7 := Lib.hid (KO.out.mod hm7 (fun k hk => hk))
            have z7 := hm7.size
            rw [← HVV.out, HY.out, fullTo_succ, HFL.out] at hq7
            rw [HFL.out]
            have hl7 := fullTo_len bs (3 + 1)
            have hl8 := HN.out
            have HQ7 := Lib.hid (show FulO w w7 (.slice ao7 (n + 3 + 1) cap7) (fullTo bs (3 + 1)) from ⟨hq7.1, fun g hg => by have := hq7.2.1 g hg; unfold New at this; omega, Nat.le_refl _⟩)
            clear hq7 hm7 hl7 hl8 hlb
            go_wp2
            go_roundw
            case rel => exact ⟨3 + 1, ao7, cap7, by go_num, by omega, rfl, HQ7.out, KO7.out⟩
            case measure => first | (simp [intOf]; done) | (simp [intOf]; omega)
          | 4, _ =>
            have hv : y = x / 16777216 % 256 := by rw [HV.out]; simp
            have HVV := Lib.hid hv
            rw [hv] at hlb
            clear hv
            go_wp2_with (at_builtin; go_must (refine wpList_appR1 rfl (.tmp 31) (.tmp 38) rfl rfl KF.out rfl hlb.1 hlb.2 (by rw [HFL.out]; omega) ?_))
            intro ao7 cap7 w7 hq7 hm7
            have KO7 := Lib.hid (KO.out.mod hm7 (fun k hk => hk))
            have z7 := hm7.size
            rw [← HVV.out, HY.out, fullTo_succ, HFL.out] at hq7
            rw [HFL.out]
            have hl7 := fullTo_len bs (4 + 1)
            have hl8 := HN.out
            have HQ7 := Lib.hid (show FulO w w7 (.slice ao7 (n + 4 + 1) cap7) (fullTo bs (4 + 1)) from ⟨hq7.1, fun g hg => by have := hq7.2.1 g hg; unfold New at this; omega, Nat.le_refl _⟩)
            clear hq7 hm7 hl7 hl8 hlb
            go_wp2
            go_roundw
            case rel => exact ⟨4 + 1, ao7, cap7, by go_num, by omega, rfl, HQ7.out, KO7.out⟩
            case measure => first | (simp [intOf]; done) | (simp [intOf]; omega)
          | 5, _ =>
            have hv : y = x / 65536 % 256 := by rw [HV.out]; simp
            have HVV := Lib.hid hv
            rw [hv] at hlb
            clear hv
            go_wp2_with (at_builtin; go_must (refine wpList_appR1 rfl (.tmp 31) (.tmp 38) rfl rfl KF.out rfl hlb.1 hlb.2 (by rw [HFL.out]; omega) ?_))
            intro ao7 cap7 w7 hq7 hm7
            have KO7 := Lib.hid (KO.out.mod hm7 (fun k hk => hk))
            have z7 := hm7.size
            rw [← HVV.out, HY.out, fullTo_succ, HFL.out] at hq7
            rw [HFL.out]
            have hl7 := fullTo_len bs (5 + 1)
            have hl8 := HN.out
            have HQ7 := Lib.hid (show FulO w w7 (.slice ao7 (n + 5 + 1) cap7) (fullTo bs (5 + 1)) from ⟨hq7.1, fun g hg => by have := hq7.2.1 g hg; unfold New at this; omega, Nat.le_refl _⟩)
            clear hq7 hm7 hl7 hl8 hlb
            go_wp2
            go_roundw
            case rel => exact ⟨5 + 1, ao7, cap7, by go_num, by omega, rfl, HQ7.out, KO7.out⟩
            case measure => first | (simp [intOf]; done) | (simp [intOf]; omega)
          | 6, _ =>
            have hv : y = x / 256 % 256 := by rw [HV.out]; simp
            have HVV := Lib.hid hv
            rw [hv] at hlb
            clear hv
            go_wp2_with (at_builtin; go_must (refine wpList_appR1 rfl (.tmp 31) (.tmp 38) rfl rfl KF.out rfl hlb.1 hlb.2 (by rw [HFL.out]; omega) ?_))
            intro ao7 cap7 w7 hq7 hm7
            have KO7 := Lib.hid (KO.out.mod hm7 (fun k hk => hk))
            have z7 := hm7.size
            rw [← HVV.out, HY.out, fullTo_succ, HFL.out] at hq7
            rw [HFL.out]
            have hl7 := fullTo_len bs (6 + 1)
            have hl8 := HN.out
            have HQ7 := Lib.hid (show FulO w w7 (.slice ao7 (n + 6 + 1) cap7) (fullTo bs (6 + 1)) from ⟨hq7.1, fun g hg => by have := hq7.2.1 g hg; unfold New at this; omega, Nat.le_refl _⟩)
            clear hq7 hm7 hl7 hl8 hlb
            go_wp2
            go_roundw
            case rel => exact ⟨6 + 1, ao7, cap7, by go_num, by omega, rfl, HQ7.out, KO7.out⟩
            case measure => first | (simp [intOf]; done) | (simp [intOf]; omega)
          | 7, _ =>
            have hv : y = x % 256 := by rw [HV.out]; simp
            have HVV := Lib.hid hv
            rw [hv] at hlb
            clear hv
            go_wp2_with (at_builtin; go_must (refine wpList_appR1 rfl (.tmp 31) (.tmp 38) rfl rfl KF.out rfl hlb.1 hlb.2 (by rw [HFL.out]; omega) ?_))
            intro ao7 cap7 w7 hq7 hm7
            have KO7 := Lib.hid (KO.out.mod hm7 (fun k hk => hk))
            have z7 := hm7.size
            rw [← HVV.out, HY.out, fullTo_succ, HFL.out] at hq7
            rw [HFL.out]
            have hl7 := fullTo_len bs (7 + 1)
            have hl8 := HN.out
            have HQ7 := Lib.hid (show FulO w w7 (.slice ao7 (n + 7 + 1) cap7) (fullTo bs (7 + 1)) from ⟨hq7.1, fun g hg => by have := hq7.2.1 g hg; unfold New at this; omega, Nat.le_refl _⟩)
            clear hq7 hm7 hl7 hl8 hlb
            go_wp2
            go_roundw
            case rel => exact ⟨7 + 1, ao7, cap7, by go_num, by omega, rfl, HQ7.out, KO7.out⟩
            case measure => first | (simp [intOf]; done) | (simp [intOf]; omega)
        · obtain rfl : i = 8 := by omega
          obtain ⟨fb, hfb⟩ : ∃ fb, fb = fullB bs := ⟨_, rfl⟩
          have hL : fb.length = n + 8 := by rw [hfb]; exact HFL.out
          have hdiv : fb.length % 64 = 0 := by rw [hfb]; exact full_div bs
          have hFF : FulO w wi (.slice ao6 (n + 8) cap6) fb := by rw [hfb]; exact KF.out
          have HFB := Lib.hid hfb
          have HFF := Lib.hid hFF
          have HDIV := Lib.hid hdiv
          have HL := Lib.hid hL
          clear hfb hFF hL hdiv KF HFL
          rw [show ((8 : Nat) : Int) = 8 from rfl]
          go_wp2_with fail
          refine (rounds_any _).mono ?_
          rintro e w8 ⟨rfl, hm8⟩
          have z8 := hm8.size
          have KO8 := Lib.hid (KO.out.mod hm8 (fun k h => h.elim))
          have HF8 := HFF.out.rd.mod hm8 (fun k _ h => h.elim)
          have HF9 := Lib.hid (show RdR (fun k => w.heap.size + 2 ≤ k ∧ k < w8.heap.size) fb.length w8 (.slice ao6 (n + 8) cap6) fb from ⟨HF8.1, fun h0 g hg => ⟨HF8.2.1 h0 g hg, HF8.1.block_lt h0 g hg⟩, Nat.le_refl _⟩)
          have zr8 := KO8.out.k3.lt
          clear hm8 HF8 KO HFF
          have HKL := Lib.hid (show 0 + (K256.map wv).length ≤ 64 by rw [List.length_map, K256_len]; exact Nat.le_refl _)
          have HKS := Lib.hid (show (Try.prog.info? 127).map (·.size) = some (K256.map wv).length by rw [List.length_map, K256_len]; exact size_a64)
          go_wp2_with ((with_reducible show wpList _ _ _ (Oper.mk none (Op.store 127 (.tmp 7) (.tmp 41)) _ _ _ _ :: _) _ _); go_must (refine wpList_storeA rfl 127 (.tmp 7) (.tmp 41) rfl (Cs.new _ _ _) (off := 0) (vs := K256.map wv) HKS.out (wv_one _) HKL.out rfl rfl ?_))
          intro w9 hc9 hm9
          rw [lay_whole _ _ (by rw [List.length_map, K256_len]; rfl)] at hc9
          have hm9' : Mod (fun _ => False) w8 w9 := ((Mod.refl _ _).alloc _).trans hm9 (by intro k h1 h2; (try dsimp only at h2); omega)
          have z9 := hm9'.size
          have zg := Cs.lt hc9
          have KO9 := Lib.hid (KO8.out.mod hm9' (fun k h => h.elim))
          have KK := Lib.hid (show Ws 127 w9 w8.heap.size K256 from hc9)
          have HF10 := Lib.hid (HF9.out.mod hm9' (fun _ _ h => h))
          clear hc9 hm9 hm9' KO8 HF9 HKL
          obtain ⟨g7, hg7⟩ : ∃ g, g = w8.heap.size := ⟨_, rfl⟩
          rw [← hg7] at KK HF10 zg
          rw [← hg7]
          have hg72 : w.heap.size + 2 ≤ g7 := by omega
          clear hg7 z8 z9 zr8
          have hn8 : n + 8 ≤ 960000 := by omega
          go_wp2
          go_loopw [4] (fun t4 wr => ∃ (t m : Nat) (ao : Option Addr) (cap : Nat), t4 = .slice ao m cap ∧ m + 64 * t = n + 8 ∧ RdR (fun k => w.heap.size + 2 ≤ k ∧ k < g7) fb.length wr (.slice ao m cap) (fb.drop (64 * t)) ∧ SumO w (blocksTo fb t) wr ∧ Ws 127 wr g7 K256) (fun t4 _ => lenOf t4)
          case atStart => exact ⟨0, n + 8, ao6, cap6, rfl, by omega, HF10.out, KO9.out, KK.out⟩
          case round =>
            obtain ⟨wj, rfl⟩ : ∃ x, x = wr := ⟨_, rfl⟩
            obtain ⟨t, m, ao10, cap10, rfl, hm, hF, hO, hK⟩ := hrel
            have hfl : fb.length = n + 8 := HL.out
            have hdl : (fb.drop (64 * t)).length = m := by rw [List.length_drop]; omega
            have hcl := hF.1.len.2
            have hdv : m % 64 = 0 := by have := HDIV.out; omega
            have KF := Lib.hid hF
            have KO := Lib.hid hO
            have KK2 := Lib.hid hK
            have HDL := Lib.hid hdl
            have zj := hO.k3.lt
            have zk := hK.lt
            clear hF hO hK hfl hdl KO9 KK HF10
            by_cases hlt : 0 < m
            · have hm64 : 64 ≤ m := by omega
              have hlti : (0 : Int) < (m : Int) := by omega
              obtain ⟨H, hH⟩ : ∃ H, H = blocksTo fb t := ⟨_, rfl⟩
              have hHl : H.length = 8 := by rw [hH]; exact blocks_len fb t
              have hsucc := blocks_succ fb t
              rw [← hH] at KO hsucc
              have HS := Lib.hid hsucc
              have HHL := Lib.hid hHl
              have HSZ := Lib.hid (show (Try.prog.info? 125).map (·.size) = some (H.map wv).length by rw [List.length_map, hHl]; exact size_a8)
              have HKS2 := Lib.hid (show (Try.prog.info? 127).map (·.size) = some (K256.map wv).length from HKS.out)
              have HC8 := Lib.hid (show ∀ k u, (H.map wv)[k]? = some u → wj.cell? ⟨w.heap.size + 1, 0 + k, none⟩ = some u by intro k u hu; rw [Nat.zero_add, Cs.cell KO.out.k3]; simpa using hu)
              have HC64 := Lib.hid (show ∀ k u, (K256.map wv)[k]? = some u → wj.cell? ⟨g7, 0 + k, none⟩ = some u by intro k u hu; rw [Nat.zero_add, Cs.cell KK2.out]; simpa using hu)
              have hmix := mix_any H K256 hHl K256_len (.slice ao10 m cap10) (fb.drop (64 * t)) wj KF.out.1 (fun g hg => KF.out.1.block_lt (by have := HDL.out; omega) g hg) (by have := HDL.out; omega)
              rw [← hsucc] at hmix
              have HMIX := Lib.hid hmix
              clear hH hHl hsucc hmix
              go_upto_region 14 with (fail)
              go_step
              refine wpList_loadA rfl 125 (.tmp 3) rfl Try.underlying125 rfl (g := w.heap.size + 1) (off := 0) (cs := H.map wv) HSZ.out rfl HC8.out ?_
              simp only [Act.put, List.setIfInBounds_toArray, List.set_cons_zero, List.set_cons_succ]
              refine wpList_loadA rfl 127 (.tmp 7) rfl Try.underlying127 rfl (g := g7) (off := 0) (cs := K256.map wv) HKS2.out rfl HC64.out ?_
              simp only [Act.put, List.setIfInBounds_toArray, List.set_cons_zero, List.set_cons_succ]
              go_wp2_with fail
              refine (HMIX.out).mono ?_
              rintro e w10 ⟨rfl, hm10⟩
              obtain ⟨H2, hH2⟩ : ∃ H2, H2 = blocksTo fb (t + 1) := ⟨_, rfl⟩
              have hH2l : H2.length = 8 := by rw [hH2]; exact blocks_len fb (t + 1)
              rw [← hH2]
              have HH2 := Lib.hid hH2
              have HSZ2 := Lib.hid (show (Try.prog.info? 125).map (·.size) = some (H2.map wv).length by rw [List.length_map, hH2l]; exact size_a8)
              have HFT := Lib.hid (show 0 + (H2.map wv).length ≤ (H.map wv).toArray.size by simp [hH2l, HHL.out])
              have HLY := Lib.hid (lay_whole (H.map wv).toArray (H2.map wv) (by simp [hH2l, HHL.out]))
              have z10 := hm10.size
              have KO10 := Lib.hid (KO.out.mod hm10 (fun k h => h.elim))
              have KK10 := Lib.hid (KK2.out.mod hm10 (fun h => h))
              have KF10 := Lib.hid (KF.out.mod hm10 (fun _ _ h => h))
              clear hH2 hH2l hm10 KO KK2 KF HMIX HC8 HC64
              go_wp2_with ((with_reducible show wpList _ _ _ (Oper.mk none (Op.store 125 (.tmp 3) (.tmp 50)) _ _ _ _ :: _) _ _); go_must (refine wpList_storeA rfl 125 (.tmp 3) (.tmp 50) rfl KO10.out.k3 (off := 0) (vs := H2.map wv) HSZ2.out (wv_one _) HFT.out rfl rfl ?_))
              intro w11 hc11 hm11
              rw [HLY.out] at hc11
              have z11 := hm11.size
              have KO11 := Lib.hid (KO10.out.put hm11 hc11)
              have KK11 := Lib.hid (KK10.out.mod hm11 (by omega))
              have KF11 := KF10.out.mod hm11 (by intro k h1 h2; (try dsimp only at h1 h2); omega)
              have hdd : (fb.drop (64 * t)).drop 64 = fb.drop (64 * (t + 1)) := by rw [List.drop_drop]; congr 1
              clear hc11 hm11 KO10 KK10 KF10
              rw [HH2.out] at KO11
              by_cases hc64 : cap10 = 64
              · have hta := RdB.tail_at KF11.1 64 (by rw [HDL.out]; omega) hc64
                rw [hdd, HDL.out] at hta
                have HTA := Lib.hid (show RdR (fun k => w.heap.size + 2 ≤ k ∧ k < g7) fb.length w11 (.slice ao10 (m - 64) 0) (fb.drop (64 * (t + 1))) from ⟨hta, fun h0 g hg => KF11.2.1 (by rw [HDL.out]; omega) g (by cases ao10 <;> simp_all [Value.ownBlock]), by simp⟩)
                clear hta KF11 hdd
                go_wp2
                go_roundw
                case rel => exact ⟨t + 1, m - 64, ao10, 0, rfl, by omega, HTA.out, KO11.out, KK11.out⟩
                case measure => simp [lenOf]; omega
              · have hta := RdB.tail_in KF11.1 64 (by rw [HDL.out]; omega) hc64
                rw [hdd, HDL.out] at hta
                have HTA := Lib.hid (show RdR (fun k => w.heap.size + 2 ≤ k ∧ k < g7) fb.length w11 (.slice (ao10.map fun x => x.add 64) (m - 64) (cap10 - 64)) (fb.drop (64 * (t + 1))) from ⟨hta, fun h0 g hg => KF11.2.1 (by rw [HDL.out]; omega) g (by rw [← ownBlock_map ao10 64 (m - 64) (cap10 - 64) m cap10]; exact hg), by simp⟩)
                clear hta KF11 hdd
                go_wp2
                go_roundw
                case rel => exact ⟨t + 1, m - 64, ao10.map fun x => x.add 64, cap10 - 64, rfl, by omega, HTA.out, KO11.out, KK11.out⟩
                case measure => simp [lenOf]; omega
            · obtain rfl : m = 0 := by omega
              have hn0 : n + 8 = 64 * t := by omega
              have htl : t = fb.length / 64 := by have := HL.out; omega
              have hres : shaF bs = (List.range 32).map (outB (blocksTo fb t)) := by rw [htl, HFB.out]; rfl
              obtain ⟨H, hH⟩ : ∃ H, H = blocksTo fb t := ⟨_, rfl⟩
              have hHl : H.length = 8 := by rw [hH]; exact blocks_len fb t
              rw [← hH] at KO hres
              have HRES := Lib.hid (show outTo H 32 = shaF bs by rw [hres]; simp [outTo])
              have HHL := Lib.hid hHl
              have HSZ := Lib.hid (show (Try.prog.info? 125).map (·.size) = some (H.map wv).length by rw [List.length_map, hHl]; exact size_a8)
              have z12 := KO.out.k3.lt
              clear hH hHl hres htl hn0 hm KF KK2 HDL HL HFB HDIV HX hdv hlt
              go_upto_region 16 with (fail)
              obtain ⟨w12, hw12⟩ : ∃ x, x = wj.alloc (.cells ((List.replicate 32 0).map bv).toArray 28) := ⟨_, rfl⟩
              change Code.wp _ _ _ _ (wj.alloc (.cells ((List.replicate 32 0).map bv).toArray 28))
              rw [← hw12]
              have hm12 : Mod (fun _ => False) wj w12 := by rw [hw12]; exact (Mod.refl _ _).alloc _
              have KO12 := Lib.hid (KO.out.mod hm12 (fun k h => h.elim))
              have KT := Lib.hid (show Cs w12 wj.heap.size ((outTo H 0).map bv).toArray 28 by rw [hw12]; exact Cs.new _ _ _)
              have HC8 := Lib.hid (show ∀ k u, (H.map wv)[k]? = some u → w12.cell? ⟨w.heap.size + 1, 0 + k, none⟩ = some u by intro k u hu; rw [Nat.zero_add, Cs.cell KO12.out.k3]; simpa using hu)
              obtain ⟨g8, hg8⟩ : ∃ g, g = wj.heap.size := ⟨_, rfl⟩
              rw [← hg8] at KT z12
              rw [← hg8]
              clear hw12 hm12 KO hg8
              go_step
              refine wpList_loadA rfl 125 (.tmp 3) rfl Try.underlying125 rfl (g := w.heap.size + 1) (off := 0) (cs := H.map wv) HSZ.out rfl HC8.out ?_
              simp only [Act.put, List.setIfInBounds_toArray, List.set_cons_zero, List.set_cons_succ]
              clear HC8
              go_wp2
              go_loopw [52] (fun t52 wr => ∃ (i : Nat), t52 = .int .i64 i ∧ i ≤ 8 ∧ Cs wr g8 ((outTo H (4 * i)).map bv).toArray 28 ∧ SumO w H wr) (fun t52 _ => 8 - (intOf t52).toNat)
              case atStart => exact ⟨0, rfl, by omega, KT.out, KO12.out⟩
              case round =>
                obtain ⟨wk, rfl⟩ : ∃ x, x = wr := ⟨_, rfl⟩
                obtain ⟨i, rfl, hi, hT, hO⟩ := hrel
                clear KT KO12
                have KT := Lib.hid hT
                have KO := Lib.hid hO
                clear hT hO
                by_cases hlt : i < 8
                · obtain ⟨x, hx⟩ : ∃ x, x = H.getD i 0 := ⟨_, rfl⟩
                  have HX := Lib.hid hx
                  clear hx
                  have hsz1 : (Try.prog.info? 124).map (·.size) = some 1 := by kernel_rfl
                  have HS1 := Lib.hid hsz1
                  clear hsz1
                  go_wp2_with ((with_reducible show wpList _ _ _ (Oper.mk (some 55) _ _ _ _ _ :: _) _ _); go_must (refine wpList_idxA rfl 125 (.tmp 51) (.tmp 52) rfl (i := i) Try.underlying125 Try.underlying124 HS1.out H HHL.out hlt rfl rfl ?_); rw [← HX.out])
                  go_loopw [56] (fun t56 wr => ∃ (j : Nat), t56 = .int .i64 j ∧ j ≤ 4 ∧ Cs wr g8 ((outTo H (4 * i + j)).map bv).toArray 28 ∧ SumO w H wr) (fun t56 _ => 4 - (intOf t56).toNat)
                  case atStart => exact ⟨0, rfl, by omega, KT.out, KO.out⟩
                  case round =>
                    obtain ⟨wm, rfl⟩ : ∃ x, x = wr := ⟨_, rfl⟩
                    obtain ⟨j, rfl, hj, hT, hO⟩ := hrel
                    clear KT KO
                    have KT := Lib.hid hT
                    have KO := Lib.hid hO
                    clear hT hO
                    by_cases hlj : j < 4
                    · have hq : 4 * i + j < 32 := by omega
                      have hl32 := outTo_len H (4 * i + j) (by omega)
                      have hc : wm.cell? ⟨g8, 4 * i + j, none⟩ = some (bv ((outTo H (4 * i + j)).getD (4 * i + j) 0)) := by
                        rw [KT.out.cell]; simp [List.getD, hl32, hq]
                      have hf := KT.out.frozen (4 * i + j)
                      have hnext := Cs_setB KT.out (4 * i + j) (outB H (4 * i + j))
                      rw [outTo_succ H _ hq, outB_at H i j hlj, ← HX.out] at hnext
                      have hmm : Mod (fun k => k = g8) wm (wm.setCell ⟨g8, 4 * i + j, none⟩ (bv (x / 2 ^ (24 - 8 * j) % 256))) := Mod.setCell (Mod.refl (fun k => k = g8) wm) (p := ⟨g8, 4 * i + j, none⟩) (fun _ => rfl) _
                      have hon := KO.out.mod hmm (fun k hk => by omega)
                      have HNX := Lib.hid hnext
                      have HON := Lib.hid hon
                      generalize (outTo H (4 * i + j)).getD (4 * i + j) 0 = old at hc
                      clear hnext hmm hon hl32
                      have HJ := Lib.hid hlj
                      match j, hlj with
                      | 0, _ =>
                        have h1 := HNX.out
                        have h2 := HON.out
                        rw [show (2 : Int) ^ (24 - 8 * 0) = 16777216 from by decide] at h1 h2
                        simp only [Nat.add_zero] at hc hf
                        have H1 := Lib.hid h1
                        have H2 := Lib.hid h2
                        clear h1 h2 HNX HON
                        go_wp2
                        go_roundw
                        case rel => exact ⟨0 + 1, by go_num, by omega, H1.out, H2.out⟩
                        case measure => first | (simp [intOf]; done) | (simp [intOf]; omega)
                      | 1, _ =>
                        have h1 := HNX.out
                        have h2 := HON.out
                        rw [show (2 : Int) ^ (24 - 8 * 1) = 65536 from by decide] at h1 h2
                        skip
                        have H1 := Lib.hid h1
                        have H2 := Lib.hid h2
                        clear h1 h2 HNX HON
                        go_wp2
                        go_roundw
                        case rel => exact ⟨1 + 1, by go_num, by omega, H1.out, H2.out⟩
                        case measure => first | (simp [intOf]; done) | (simp [intOf]; omega)
                      | 2, _ =>
                        have h1 := HNX.out
                        have h2 := HON.out
                        rw [show (2 : Int) ^ (24 - 8 * 2) = 256 from by decide] at h1 h2
                        skip
                        have H1 := Lib.hid h1
                        have H2 := Lib.hid h2
                        clear h1 h2 HNX HON
                        go_wp2
                        go_roundw
                        case rel => exact ⟨2 + 1, by go_num, by omega, H1.out, H2.out⟩
                        case measure => first | (simp [intOf]; done) | (simp [intOf]; omega)
                      | 3, _ =>
                        have h1 := HNX.out
                        have h2 := HON.out
                        rw [show (2 : Int) ^ (24 - 8 * 3) = 1 from by decide, Int.ediv_one] at h1 h2
                        skip
                        have H1 := Lib.hid h1
                        have H2 := Lib.hid h2
                        clear h1 h2 HNX HON
                        go_wp2
                        go_roundw
                        case rel => exact ⟨3 + 1, by go_num, by omega, H1.out, H2.out⟩
                        case measure => first | (simp [intOf]; done) | (simp [intOf]; omega)
                    · obtain rfl : j = 4 := by omega
                      go_wp2
                      go_roundw
                      case rel => exact ⟨i + 1, by go_num, by omega, by have := KT.out; rw [show 4 * i + 4 = 4 * (i + 1) by omega] at this; exact this, KO.out⟩
                      case measure => first | (simp [intOf]; done) | (simp [intOf]; omega)
                · obtain rfl : i = 8 := by omega
                  have hF := HRES.out
                  obtain ⟨F, hFF⟩ : ∃ F, F = shaF bs := ⟨_, rfl⟩
                  rw [← hFF] at hF
                  have hFl : F.length = 32 := by rw [hFF]; exact shaF_len bs
                  have hT := KT.out
                  rw [show 4 * 8 = 32 from rfl, hF] at hT
                  have HT := Lib.hid hT
                  have HFF2 := Lib.hid hFF
                  have HSF := Lib.hid (show (Try.prog.info? 28).map (·.size) = some (F.map bv).length by rw [List.length_map, hFl]; exact size_hash)
                  have HCF := Lib.hid (show ∀ k u, (F.map bv)[k]? = some u → wk.cell? ⟨g8, 0 + k, none⟩ = some u by intro k u hu; rw [Nat.zero_add, HT.out.cell]; simpa using hu)
                  have HFF := Lib.hid (show 0 + (F.map bv).length ≤ ((List.replicate 32 0).map bv).toArray.size by simp [hFl])
                  have HLY := Lib.hid (lay_whole ((List.replicate 32 0).map bv).toArray (F.map bv) (by simp [hFl]))
                  clear hF hFF hFl hT KT
                  rw [show ((8 : Nat) : Int) = 8 from rfl]
                  go_upto_region 25 with (fail)
                  go_step
                  refine wpList_loadA rfl 28 (.tmp 8) rfl Try.underlying28 rfl (g := g8) (off := 0) (cs := F.map bv) HSF.out rfl HCF.out ?_
                  simp only [Act.put, List.setIfInBounds_toArray, List.set_cons_zero, List.set_cons_succ]
                  refine wpList_storeA rfl 28 (.tmp 2) (.tmp 72) rfl KO.out.k2 (vs := F.map bv) HSF.out (ints_oneCell .u8 _) HFF.out rfl rfl ?_
                  intro w20 hc20 hm20
                  rw [HLY.out] at hc20
                  go_wp2
                  refine bodyPost_ret (results_cellA rfl _ _ w.heap.size (F.map bv) rfl (fun k u hu => by rw [hc20.cell]; simpa using hu) Try.underlying28 rfl HSF.out) rfl ⟨by rw [HFF2.out]; rfl, KO.out.m.trans (hm20.mono (S' := fun k => k = w.heap.size) (fun k _ hk => hk)) (by intro k h1 h2; omega)⟩
end Go.Proofs.Ytgnmdnmmemdemaa

/- A writer that a region fills, one call behind the other: the state for wp_region_G. -/
set_option maxRecDepth 100000
set_option linter.unusedVariables false
namespace Go.Proofs.Ytgnmdnmmemdemaa
open Go Go.RowKit Go.Gv

/-- how much a stage has at most -/
def Nf (k : Nat) : Nat := 100 * k
/-- the trail of a new writer: it is made, then filled: behind k calls it has ct k -/
def WcG (B : Nat) (ct : Nat → List Int) (t : List Value) (w : World) : Prop := B ≤ w.heap.size ∧
  ∀ p, t[0]? = some p → ∃ g, p = .pointer (some ⟨g, 0, none⟩) ∧ (∀ q ∈ t, q = p) ∧ B ≤ g ∧
    (t.length = 1 → Cs w g #[.slice none 0 0] 121) ∧ (2 ≤ t.length → WrR (fun k => B ≤ k) (Nf t.length) w g (ct t.length))
def WcS (B : Nat) : Nat → Nat → Prop := fun k j => 1 ≤ k ∧ B ≤ j
theorem WcS_T (B : Nat) : ∀ k j, WcS B k j → B ≤ j := fun _ _ h => h.2
theorem WcG_nil {B : Nat} {ct : Nat → List Int} {w : World} (h : B ≤ w.heap.size) : WcG B ct [] w := ⟨h, fun p hp => by simp at hp⟩
theorem Cs_marked {B : Nat} {T8 : TypeId} {w w' : World} {g : Nat} {c : Array Value} {e : TypeId} (h : Cs w g c e) (hm : Marked B T8 w w') (hne : e ≠ T8) : Cs w' g c e := by
  rcases hm.block g h.lt with h1 | ⟨-, C, m, h1, -⟩
  · exact h1.trans h
  · unfold Cs at h
    rw [h] at h1
    cases h1
    exact absurd rfl hne
theorem WcG_still {B : Nat} {ct : Nat → List Int} : ∀ t w w', WcG B ct t w → StillM B 5 1 t.length w w' → WcG B ct t w' := by
  rintro t w w' ⟨h0, h⟩ hr
  refine ⟨Nat.le_trans h0 (by rcases hr with hr | ⟨-, hr⟩; exact hr.size; exact hr.size), fun p hp => ?_⟩
  obtain ⟨g, h1, h2, h3, h4, h5⟩ := h p hp
  rcases hr with hr | ⟨hk, hr⟩
  · exact ⟨g, h1, h2, h3, fun h => (h4 h).mod hr (fun h => h), fun h => (h5 h).mod hr (fun _ _ h => h)⟩
  · exact ⟨g, h1, h2, h3, fun h => Cs_marked (h4 h) hr (by decide), fun h => by omega⟩
/-- the writer is made -/
theorem WcG_new {B : Nat} {ct : Nat → List Int} {t : List Value} {w w' : World} (h : WcG B ct t w) (hl : t.length = 0) {g : Nat} (hg : w.heap.size ≤ g) (hc : Wr w' g (.slice none 0 0) []) (hm : Mod (fun _ => False) w w') : WcG B ct (t ++ [.pointer (some ⟨g, 0, none⟩)]) w' := by
  obtain rfl : t = [] := List.eq_nil_of_length_eq_zero hl
  refine ⟨Nat.le_trans h.1 hm.size, fun p hp => ?_⟩
  simp only [List.nil_append, List.getElem?_cons_zero, Option.some.injEq] at hp
  subst hp
  exact ⟨g, rfl, by simp, Nat.le_trans h.1 hg, fun _ => hc.1, fun h => by simp at h⟩
theorem WcG_at {B : Nat} {ct : Nat → List Int} {t : List Value} {w : World} (h : WcG B ct t w) (hl : 0 < t.length) : ∃ g, t[0]? = some (.pointer (some ⟨g, 0, none⟩)) ∧ (∀ q ∈ t, q = .pointer (some ⟨g, 0, none⟩)) ∧ B ≤ g := by
  obtain ⟨g, h1, h2, h3, -, -⟩ := h.2 t[0] (List.getElem?_eq_getElem hl)
  exact ⟨g, by rw [List.getElem?_eq_getElem hl, h1], by rw [← h1]; exact h2, h3⟩
theorem WcG_on {B : Nat} {ct : Nat → List Int} {t : List Value} {w w' : World} (h : WcG B ct t w) {g : Nat} (h0 : t[0]? = some (.pointer (some ⟨g, 0, none⟩))) (h2 : 2 ≤ (t ++ [Value.pointer (some ⟨g, 0, none⟩)]).length) {N : Nat} {R : Nat → Prop} (hw : WrR R N w' g (ct (t.length + 1))) (hR : ∀ k, R k → B ≤ k) (hN : N ≤ Nf (t.length + 1)) (hs : w.heap.size ≤ w'.heap.size) : WcG B ct (t ++ [.pointer (some ⟨g, 0, none⟩)]) w' := by
  have hlt : 0 < t.length := (List.getElem?_eq_some_iff.1 h0).1
  obtain ⟨g', e1, e2, e3⟩ := WcG_at h hlt
  rw [h0] at e1
  cases e1
  refine ⟨Nat.le_trans h.1 hs, fun p hp => ?_⟩
  rw [List.getElem?_append_left hlt, h0] at hp
  cases hp
  refine ⟨g, rfl, fun q hq => ?_, e3, fun h => by rw [h] at h2; omega, fun _ => ?_⟩
  · rcases List.mem_append.1 hq with hq | hq
    · exact e2 q hq
    · simpa using hq
  · rw [List.length_append]
    exact hw.widen hR hN
/-- what stands in the trail at any place is the writer -/
theorem WcG_val {B : Nat} {ct : Nat → List Int} {t : List Value} {w : World} (h : WcG B ct t w) {j : Nat} {v : Value} (hv : t[j]? = some v) : ∃ g, v = .pointer (some ⟨g, 0, none⟩) ∧ t[0]? = some (.pointer (some ⟨g, 0, none⟩)) ∧ B ≤ g ∧ (t.length = 1 → Cs w g #[.slice none 0 0] 121) ∧ (2 ≤ t.length → WrR (fun k => B ≤ k) (Nf t.length) w g (ct t.length)) := by
  have hlt : 0 < t.length := by have := (List.getElem?_eq_some_iff.1 hv).1; omega
  obtain ⟨g, h1, h2, h3, h4, h5⟩ := h.2 t[0] (List.getElem?_eq_getElem hlt)
  have := h2 v (List.mem_of_getElem? hv)
  exact ⟨g, by rw [this, h1], by rw [List.getElem?_eq_getElem hlt, h1], h3, h4, h5⟩
/-- the first call: a row that is a literal -/
theorem Wc_row {B : Nat} {ct : Nat → List Int} {t : List Value} {w : World} {p v : Value} {C : List Int} (h : WcG B ct t w) (hl : t.length = 1) (hp : t[0]? = some p) (hv : litG B 5 1 (C.map bv).toArray t v w) (hC : Bytes C) (hC2 : C.length ≤ 50) (hct : ct 2 = encN C.length ++ C) :
    Calls Try.prog 59 #[p, v] w fun e w' => ∃ u, e = .returned u ∧ Mod (WcS B t.length) w w' ∧ (t ++ [u])[1]? = some u ∧ WcG B ct (t ++ [u]) w' := by
  obtain ⟨g, rfl, h0, hB, hc, -⟩ := WcG_val h hp
  obtain ⟨g2, rfl, hB2, m, -, hb⟩ := hv (by omega)
  have hcs := hc hl
  have hne : g2 ≠ g := by
    rintro rfl
    unfold Cs at hcs
    rw [hb] at hcs
    have e : (5 : TypeId) = 121 := congrArg (fun o => match o with | some (Obj.cells _ e _) => e | _ => 0) hcs
    exact absurd e (by decide)
  have hW : WrR (fun k => k = g) 0 w g [] := ⟨.slice none 0 0, ⟨hcs, OwnB.nil _⟩, rfl, (fun g hg => by cases hg), Nat.le_refl _⟩
  have hrd : RdB w (.slice (some ⟨g2, 0, none⟩) (C.map bv).toArray.size (C.map bv).toArray.size) C := by
    refine ⟨hC, ?_⟩
    have e : (C.map bv).toArray.size = C.length := by simp
    rw [e]
    refine Rd.mk (by omega) (by rw [maxLen_val]; omega) (by simp) (fun j u hu => ?_)
    rw [show (0 : Nat) + j = j by omega]
    simp only [World.cell?, hb]
    simpa using hu
  have hr : RdR (fun k => k = g2) 50 w (.slice (some ⟨g2, 0, none⟩) (C.map bv).toArray.size (C.map bv).toArray.size) C := ⟨hrd, fun _ g hg => (Option.some.inj (hg.symm.trans rfl)), hC2⟩
  refine (WRow_R hW hr (fun k h1 h2 => hne (h1.symm.trans h2)) (by omega)).mono ?_
  rintro e w2 ⟨rfl, hw2, hm2⟩
  refine ⟨_, rfl, hm2.mono (fun k _ hk => ⟨by omega, by subst hk; exact hB⟩), ?_, WcG_on h h0 (by simp; omega) (R := fun k => k = g ∨ New w w2 k) (N := 0 + 50 + 10) (by rw [hl, hct]; simpa using hw2) (fun k hk => ?_) (by rw [hl]; decide) hm2.size⟩
  · rw [List.getElem?_append_right (by omega), hl]; rfl
  · rcases hk with rfl | hk
    · exact hB
    · exact Nat.le_trans h.1 hk.1
/-- a whole number -/
theorem Wc_int {B : Nat} {ct : Nat → List Int} {t : List Value} {w : World} {p : Value} {n : Int} {k : Nat} (h : WcG B ct t w) (hl : t.length = k) (h2 : 2 ≤ k) (h9 : k ≤ 90) {j : Nat} (hp : t[j]? = some p) (hn : -9223372036854775808 ≤ n ∧ n ≤ 9223372036854775807) (hct : ct (k + 1) = ct k ++ encI n) :
    Calls Try.prog 60 #[p, .int .i64 n] w fun e w' => ∃ u, e = .returned u ∧ Mod (WcS B t.length) w w' ∧ (t ++ [u])[k]? = some u ∧ WcG B ct (t ++ [u]) w' := by
  obtain ⟨g, rfl, h0, hB, -, hw⟩ := WcG_val h hp
  refine (WInt_R (hw (by omega)) hn (by unfold Nf; omega)).mono ?_
  rintro e w2 ⟨rfl, hw2, hm2⟩
  refine ⟨_, rfl, hm2.mono (fun k _ hk => ⟨by omega, hk⟩), ?_, WcG_on h h0 (by simp; omega) (by rw [hl, hct]; rw [hl] at hw2; exact hw2) (fun k hk => ?_) (by unfold Nf; omega) hm2.size⟩
  · rw [List.getElem?_append_right (by omega), hl]; simp
  · rcases hk with hk | hk
    · exact hk
    · exact Nat.le_trans h.1 hk.1
end Go.Proofs.Ytgnmdnmmemdemaa

/- commit.Of. -/
set_option maxRecDepth 100000
set_option linter.unusedVariables false
namespace Go.Proofs.Ytgnmdnmmemdemaa
open Go Go.RowKit Go.Gv

def commitLit : List Int := [99, 111, 109, 109, 105, 116]
def ofC (a b : Int) (h bs : List Int) : Nat → List Int
  | 0 | 1 => []
  | 2 => encN commitLit.length ++ commitLit
  | 3 => (encN commitLit.length ++ commitLit) ++ encI a
  | 4 => ((encN commitLit.length ++ commitLit) ++ encI a) ++ encI b
  | 5 => (((encN commitLit.length ++ commitLit) ++ encI a) ++ encI b) ++ h
  | _ => ((((encN commitLit.length ++ commitLit) ++ encI a) ++ encI b) ++ h) ++ (encN bs.length ++ bs)
def ofT (a b : Int) (h bs : List Int) : List Int := ofC a b h bs 6
def I64 (n : Int) : Prop := -9223372036854775808 ≤ n ∧ n ≤ 9223372036854775807
def OfSt (B g gr : Nat) (ct : Nat → List Int) : Nat → List Value → World → Prop := fun k t w => B ≤ w.heap.size ∧ match k with
  | 0 => WrR (fun k => B ≤ k) (Nf 4) w g (ct 4) ∧ Cs w gr ((List.replicate 32 0).map bv).toArray 28
  | 1 => WrR (fun k => B ≤ k) (Nf 4 + 32) w g (ct 5) ∧ Cs w gr ((List.replicate 32 0).map bv).toArray 28
  | 2 => WrR (fun k => B ≤ k) 900000 w g (ct 6) ∧ Cs w gr ((List.replicate 32 0).map bv).toArray 28
  | 3 => (∃ v, t[2]? = some v ∧ RdB w v (ct 6) ∧ (ct 6).length ≤ 900000) ∧ Cs w gr ((List.replicate 32 0).map bv).toArray 28
  | 4 => Cs w gr ((List.replicate 32 0).map bv).toArray 28
  | _ => Cs w gr ((shaF (ct 6)).map bv).toArray 28
theorem OfSt_still {B g gr : Nat} {ct : Nat → List Int} : ∀ k t w w', OfSt B g gr ct k t w → Mod (fun _ => False) w w' → OfSt B g gr ct k t w' := by
  rintro k t w w' ⟨h0, h⟩ hm
  refine ⟨Nat.le_trans h0 hm.size, ?_⟩
  match k, h with
  | 0, h | 1, h | 2, h => exact ⟨h.1.mod hm (fun _ _ h => h), h.2.mod hm (fun h => h)⟩
  | 3, ⟨⟨v, h1, h2, h3⟩, h4⟩ => exact ⟨⟨v, h1, h2.mod hm (fun _ _ _ h => h), h3⟩, h4.mod hm (fun h => h)⟩
  | 4, h => exact Cs.mod h hm (fun h => h)
  | k + 5, h => exact Cs.mod h hm (fun h => h)
set_option maxHeartbeats 1000000 in
theorem Of_any (a b : Int) (h bs : List Int) (v : Value) (w : World) (ha : I64 a) (hb : I64 b) (hh : h.length = 32) (hB : Bytes h) (hr : RdB w v bs) (hl : bs.length ≤ 800000) :
    Calls Try.prog 24 #[.agg #[.int .i64 a, .int .i64 b], hv h, v] w fun e w' => e = .returned (hv (shaF (ofT a b h bs))) ∧ Mod (fun _ => False) w w' := by
  have hbl := hr.block_lt
  have HR := Lib.hid hr
  have HBL := Lib.hid hbl
  have HA := Lib.hid ha
  have HBb := Lib.hid hb
  have HL := Lib.hid hh
  have HBy := Lib.hid hB
  have HLB := Lib.hid hl
  clear hbl hr ha hb hh hB hl
  change Calls _ _ #[.agg #[.int .i64 a, .int .i64 b], .agg (h.map bv).toArray, v] _ _
  go_enter Try.func24, Try.ntmps24
  go_upto_region 1 with (fail)
  obtain ⟨w1, hw1⟩ : ∃ x, x = ((w.alloc (.cells #[.int .i64 a, .int .i64 b] 26)).alloc (.cells (h.map bv).toArray 28)).alloc (.cells ((List.replicate 32 0).map bv).toArray 28) := ⟨_, rfl⟩
  change Code.wp _ _ _ _ (((w.alloc (.cells #[.int .i64 a, .int .i64 b] 26)).alloc (.cells (h.map bv).toArray 28)).alloc (.cells ((List.replicate 32 0).map bv).toArray 28))
  rw [← hw1]
  have KN := Lib.hid (show Cs w1 w.heap.size #[.int .i64 a, .int .i64 b] 26 by rw [hw1]; exact ((Cs.new _ _ _).alloc _).alloc _)
  have KH := Lib.hid (show Cs w1 (w.heap.size + 1) (h.map bv).toArray 28 by rw [hw1]; exact (Cs_new1 _ _ _ _).alloc _)
  have KR := Lib.hid (show Cs w1 (w.heap.size + 1 + 1) ((List.replicate 32 0).map bv).toArray 28 by
    rw [hw1]
    have := Cs_new1 (w.alloc (.cells #[.int .i64 a, .int .i64 b] 26)) (.cells (h.map bv).toArray 28) ((List.replicate 32 0).map bv).toArray 28
    rwa [show (w.alloc (.cells #[.int .i64 a, .int .i64 b] 26)).heap.size = w.heap.size + 1 by simp] at this)
  have KM := Lib.hid (show Mod (fun _ => False) w w1 by rw [hw1]; exact (((Mod.refl _ _).alloc _).alloc _).alloc _)
  have hs1 : w1.heap.size = w.heap.size + 3 := by rw [hw1]; simp
  clear hw1
  obtain ⟨B, hBB⟩ : ∃ B, B = w1.heap.size := ⟨_, rfl⟩
  have HBB := Lib.hid (show w1.heap.size ≤ B by omega)
  have HBE := Lib.hid hBB
  have hB3 : B = w.heap.size + 3 := by omega
  clear hBB
  generalize ha0 : Act.mk _ _ = a0
  have oe3 : a0.eval (.tmp 3) = .pointer (some ⟨w.heap.size, 0, none⟩) := by rw [← ha0]; rfl
  have hsz0 : a0.tmps.size = 25 := by rw [← ha0]; rfl
  have HA0 := Lib.hid ha0
  clear ha0
  refine wp_region_G 25 hsz0 (by kernel_rfl) (by kernel_rfl) [8, 9, 10, 11, 12, 13, 14, 15, 16, 17, 7] (by kernel_rfl) (by decide) (fun j => B ≤ j) (WcS B) (WcS_T B) (StillM B 5 1) stillM_still stillM_T [gv 0, litG B 5 1 (commitLit.map bv).toArray, litG B 5 1 (commitLit.map bv).toArray, gv 1, gi (.pointer (some ⟨w.heap.size, 0, none⟩)), gi (.int .i64 a), gv 2, gi (.pointer (some ⟨w.heap.size, 1, none⟩)), gi (.int .i64 b), gv 3, gv 3] ⟨gv_stable, litG_stable (fun k hk j h => by have := h.1; omega), litG_stable (fun k hk j h => by have := h.1; omega), gv_stable, gi_stable, gi_stable, gv_stable, gi_stable, gi_stable, gv_stable, gv_stable, trivial⟩ [0, 3, 6, 9] (by kernel_rfl) (by decide) (by kernel_rfl) (WcG B (ofC a b h bs)) WcG_still (WcG_nil (Nat.le_of_eq HBE.out)) ⟨?_, ?_, ?_, ?_, ?_, ?_, ?_, ?_, ?_, ?_, ?_, trivial⟩ ?_
  · intro tr act w' hm hout hsz hd hG hk hub
    have hl := hk 0 rfl
    refine jc_call (args := #[]) (by rfl) rfl (wanted_none rfl) (by rw [ex_callF rfl Try.func58 (by kernel_rfl) (by kernel_rfl)]; simp) (NewWriter_any _) ?_
    rintro e w2 ⟨rfl, hW, hm2⟩
    exact ⟨_, rfl, hm2.mono (fun _ _ h => h.elim), gv_new tr _ w2 hl, WcG_new hG hl (Nat.le_refl _) hW hm2⟩
  · intro tr act w' hm hout hsz hd hG hk hub
    refine jg_run (by rfl) rfl (wanted_none rfl) (ex_lit rfl Try.underlying36 (by kernel_rfl) (by decide) (C := (commitLit.map bv).toArray) (by simp only [List.map_toArray, List.map_cons, List.map_nil, Act.eval]; kernel_rfl)) (Or.inl ((Mod.refl _ _).alloc _)) ?_
    exact fun _ => ⟨_, rfl, hG.1, _, Or.inl rfl, heap_alloc_new _ _⟩
  · intro tr act w' hm hout hsz hd hG hk hub
    have h1 := hd ⟨1, .data⟩ (by simp) rfl _ rfl
    have hle := hub 1 3 rfl (by kernel_rfl)
    obtain ⟨g, e1, hB, m, h0', hb⟩ := h1 hle
    exact jg_mark (by rfl) rfl (wanted_none rfl) rfl Try.underlying36 Try.underlying5 h0' hB hb e1 (fun _ hmk => Or.inr ⟨hle, hmk⟩) (fun _ hb2 _ => ⟨g, rfl, hB, _, Or.inr rfl, hb2⟩)
  · intro tr act w' hm hout hsz hd hG hk hub
    have h0 := hd ⟨0, .data⟩ (by simp) rfl _ rfl
    have h2 := hd ⟨2, .data⟩ (by simp) rfl _ rfl
    have hl := hk 1 rfl
    exact jc_call (args := #[act.eval (.tmp 8), act.eval (.tmp 10)]) (by rfl) rfl (wanted_none rfl) (by rw [ex_callF rfl Try.func59 (by kernel_rfl) (by kernel_rfl)]; exact congrArg (fun z => Result.ok (Next.enter _ z) _) (by simp only [List.map_toArray, List.map_cons, List.map_nil]; try rfl)) (Wc_row hG hl h0 h2 (by unfold Bytes; decide) (by decide) rfl) (fun _ _ h => h)
  · intro tr act w' hm hout hsz hd hG hk hub
    refine jg_run (by rfl) rfl (wanted_none rfl) (ex_field rfl Try.underlying26 rfl (by kernel_rfl) ((hout 3 (by decide)).trans oe3)) (Or.inl (Mod.refl _ _)) ?_
    rfl
  · intro tr act w' hm hout hsz hd hG hk hub
    have h4 := hd ⟨4, .data⟩ (by simp) rfl _ rfl
    exact jg_run (by rfl) rfl (wanted_none rfl) (ex_load1 rfl Try.underlying3 rfl h4 (by rw [(KN.out.mod hm (by omega)).cell]; rfl)) (Or.inl (Mod.refl _ _)) rfl
  · intro tr act w' hm hout hsz hd hG hk hub
    have h3 := hd ⟨3, .data⟩ (by simp) rfl _ rfl
    have h5 := hd ⟨5, .data⟩ (by simp) rfl _ rfl
    have hl := hk 2 rfl
    exact jc_call (args := #[act.eval (.tmp 11), .int .i64 a]) (by rfl) rfl (wanted_none rfl) (by rw [ex_callF rfl Try.func60 (by kernel_rfl) (by kernel_rfl)]; exact congrArg (fun z => Result.ok (Next.enter _ z) _) (by simp only [List.map_toArray, List.map_cons, List.map_nil, show act.eval (.tmp 13) = _ from h5]; try rfl)) (Wc_int hG hl (by decide) (by decide) h3 HA.out rfl) (fun _ _ h => h)
  · intro tr act w' hm hout hsz hd hG hk hub
    refine jg_run (by rfl) rfl (wanted_none rfl) (ex_field rfl Try.underlying26 rfl (by kernel_rfl) ((hout 3 (by decide)).trans oe3)) (Or.inl (Mod.refl _ _)) ?_
    rfl
  · intro tr act w' hm hout hsz hd hG hk hub
    have h7 := hd ⟨7, .data⟩ (by simp) rfl _ rfl
    exact jg_run (by rfl) rfl (wanted_none rfl) (ex_load1 rfl Try.underlying3 rfl h7 (by rw [(KN.out.mod hm (by omega)).cell]; rfl)) (Or.inl (Mod.refl _ _)) rfl
  · intro tr act w' hm hout hsz hd hG hk hub
    have h6 := hd ⟨6, .data⟩ (by simp) rfl _ rfl
    have h8 := hd ⟨8, .data⟩ (by simp) rfl _ rfl
    have hl := hk 3 rfl
    exact jc_call (args := #[act.eval (.tmp 14), .int .i64 b]) (by rfl) rfl (wanted_none rfl) (by rw [ex_callF rfl Try.func60 (by kernel_rfl) (by kernel_rfl)]; exact congrArg (fun z => Result.ok (Next.enter _ z) _) (by simp only [List.map_toArray, List.map_cons, List.map_nil, show act.eval (.tmp 16) = _ from h8]; try rfl)) (Wc_int hG hl (by decide) (by decide) h6 HBb.out rfl) (fun _ _ h => h)
  · intro tr act w' hm hout hsz hd hG hk hub
    have h9 := hd ⟨9, .data⟩ (by simp) rfl _ rfl
    exact jg_run (by rfl) rfl (wanted_none rfl) (ex_assign rfl rfl) (Or.inl (Mod.refl _ _)) h9
  intro vs tr w2 hl htl hm hG hV
  obtain ⟨v0, vs0, rfl, hl0⟩ := list_cons hl
  obtain ⟨v1, vs1, rfl, hl1⟩ := list_cons hl0
  obtain ⟨v2, vs2, rfl, hl2⟩ := list_cons hl1
  obtain ⟨v3, vs3, rfl, hl3⟩ := list_cons hl2
  obtain ⟨v4, vs4, rfl, hl4⟩ := list_cons hl3
  obtain ⟨v5, vs5, rfl, hl5⟩ := list_cons hl4
  obtain ⟨v6, vs6, rfl, hl6⟩ := list_cons hl5
  obtain ⟨v7, vs7, rfl, hl7⟩ := list_cons hl6
  obtain ⟨v8, vs8, rfl, hl8⟩ := list_cons hl7
  obtain ⟨v9, vs9, rfl, hl9⟩ := list_cons hl8
  obtain ⟨v10, vs10, rfl, hl10⟩ := list_cons hl9
  obtain rfl := list_nil hl10
  clear hl hl0 hl1 hl2 hl3 hl4 hl5 hl6 hl7 hl8 hl9 hl10
  have f10 := hV 10 _ rfl
  have ha0 := HA0.out
  subst ha0
  clear HA0 hV hsz0 oe3
  simp only [putAll, Act.put, List.setIfInBounds_toArray, List.set_cons_zero, List.set_cons_succ]
  obtain ⟨g, rfl, -, hgB, -, hw⟩ := WcG_val hG f10
  have hw4 := hw (by rw [htl]; decide)
  rw [show tr.length = 4 from htl] at hw4
  have KH2 := Lib.hid (KH.out.mod hm (by omega))
  have HRR := Lib.hid (show RdR (fun k => k < w.heap.size) 800000 w2 v bs from (RdR.mod (S := fun j => B ≤ j) ⟨HR.out.mod KM.out (fun _ _ _ h => h), HBL.out, HLB.out⟩ hm (fun k h1 h2 => by omega)))
  have HG0 := Lib.hid (show ByLen (OfSt B g (w.heap.size + 1 + 1) (ofC a b h bs)) [] w2 from ⟨hG.1, hw4, KR.out.mod hm (by omega)⟩)
  have KM2 := Lib.hid (KM.out.trans hm (fun k h1 h2 => by omega))
  clear hG hm hw hw4 f10 htl
  go_upto_region 2 with (fail)
  generalize ha0 : Act.mk _ _ = a0
  have oe2 : a0.eval (.tmp 2) = v := by rw [← ha0]; rfl
  have oe4 : a0.eval (.tmp 4) = .pointer (some ⟨w.heap.size + 1, 0, none⟩) := by rw [← ha0]; rfl
  have oe6 : a0.eval (.tmp 6) = .pointer (some ⟨w.heap.size + 1 + 1, 0, none⟩) := by rw [← ha0]; rfl
  have oe7 : a0.eval (.tmp 7) = .pointer (some ⟨g, 0, none⟩) := by rw [← ha0]; rfl
  have hsz0 : a0.tmps.size = 25 := by rw [← ha0]; rfl
  have HA0 := Lib.hid ha0
  clear ha0
  refine wp_region_G 25 hsz0 (by kernel_rfl) (by kernel_rfl) [18, 19, 20, 21, 22, 23, 24, 32] (by kernel_rfl) (by decide) (fun j => B ≤ j ∨ j = w.heap.size + 1 + 1) (fun k j => B ≤ j ∨ (k = 4 ∧ j = w.heap.size + 1 + 1)) (fun k j h => by omega) Still (fun _ _ _ h => h) (fun _ _ _ hm h => hm.trans h (fun _ _ h => h.elim)) [gi (.pointer (some ⟨g, 0, none⟩)), gi (hv h), gi (.pointer (some ⟨g, 0, none⟩)), gi (v), gi (.pointer (some ⟨g, 0, none⟩)), gv 2, gi (hv (shaF (ofT a b h bs))), gv 4] ⟨gi_stable, gi_stable, gi_stable, gi_stable, gi_stable, gv_stable, gi_stable, gv_stable, trivial⟩ [2, 4, 5, 6, 7] (by kernel_rfl) (by decide) (by kernel_rfl) (ByLen (OfSt B g (w.heap.size + 1 + 1) (ofC a b h bs))) (ByLen.still OfSt_still) HG0.out ⟨?_, ?_, ?_, ?_, ?_, ?_, ?_, ?_, trivial⟩ ?_
  · intro tr act w' hm hout hsz hd hG hk hub
    exact jg_run (by rfl) rfl (wanted_none rfl) (ex_move rfl ((hout 7 (by decide)).trans oe7)) (Mod.refl _ _) rfl
  · intro tr act w' hm hout hsz hd hG hk hub
    exact jg_run (by rfl) rfl (wanted_none rfl) (ex_loadA rfl Try.underlying28 rfl (off := 0) (cs := h.map bv) (by rw [List.length_map, HL.out]; exact size_hash) ((hout 4 (by decide)).trans oe4) (fun j u hu => by rw [Nat.zero_add, (KH2.out.mod hm (by omega)).cell]; simpa using hu)) (Mod.refl _ _) rfl
  · intro tr act w' hm hout hsz hd hG hk hub
    have h0 := hd ⟨0, .data⟩ (by simp) rfl _ rfl
    have h1 := hd ⟨1, .data⟩ (by simp) rfl _ rfl
    have hl := hk 0 rfl
    have hs := hG.at hl
    refine jc_call (args := #[.pointer (some ⟨g, 0, none⟩), hv h]) (by rfl) rfl (wanted_none rfl) (by rw [ex_callF rfl Try.func62 (by kernel_rfl) (by kernel_rfl)]; exact congrArg (fun z => Result.ok (Next.enter _ z) _) (by simp only [List.map_toArray, List.map_cons, List.map_nil, show act.eval (.tmp 18) = _ from h0, show act.eval (.tmp 19) = _ from h1]; try rfl)) (WHash_R hs.2.1 HL.out HBy.out (by decide)) ?_
    rintro e w2 ⟨rfl, hw2, hm2⟩
    exact ⟨_, rfl, hm2.mono (fun _ _ h => Or.inl h), rfl, ByLen.on hl ⟨Nat.le_trans hs.1 hm2.size, hw2.widen (fun k hk => by rcases hk with hk | hk; exact hk; exact Nat.le_trans hs.1 hk.1) (Nat.le_refl _), hs.2.2.mod hm2 (by omega)⟩⟩
  · intro tr act w' hm hout hsz hd hG hk hub
    exact jg_run (by rfl) rfl (wanted_none rfl) (ex_move rfl ((hout 2 (by decide)).trans oe2)) (Mod.refl _ _) rfl
  · intro tr act w' hm hout hsz hd hG hk hub
    have h2 := hd ⟨2, .data⟩ (by simp) rfl _ rfl
    have h3 := hd ⟨3, .data⟩ (by simp) rfl _ rfl
    have hl := hk 1 rfl
    have hs := hG.at hl
    refine jc_call (args := #[.pointer (some ⟨g, 0, none⟩), v]) (by rfl) rfl (wanted_none rfl) (by rw [ex_callF rfl Try.func59 (by kernel_rfl) (by kernel_rfl)]; exact congrArg (fun z => Result.ok (Next.enter _ z) _) (by simp only [List.map_toArray, List.map_cons, List.map_nil, show act.eval (.tmp 20) = _ from h2, show act.eval (.tmp 21) = _ from h3]; try rfl)) (WRow_R hs.2.1 (HRR.out.mod hm (fun k h1 h2 => by omega)) (fun k h1 h2 => by omega) (by unfold Nf; omega)) ?_
    rintro e w2 ⟨rfl, hw2, hm2⟩
    exact ⟨_, rfl, hm2.mono (fun _ _ h => Or.inl h), rfl, ByLen.on hl ⟨Nat.le_trans hs.1 hm2.size, hw2.widen (fun k hk => by rcases hk with hk | hk; exact hk; exact Nat.le_trans hs.1 hk.1) (by unfold Nf; omega), hs.2.2.mod hm2 (by omega)⟩⟩
  · intro tr act w' hm hout hsz hd hG hk hub
    have h4 := hd ⟨4, .data⟩ (by simp) rfl _ rfl
    have hl := hk 2 rfl
    have hs := hG.at hl
    refine jc_call (args := #[.pointer (some ⟨g, 0, none⟩)]) (by rfl) rfl (wanted_none rfl) (by rw [ex_callF rfl Try.func63 (by kernel_rfl) (by kernel_rfl)]; exact congrArg (fun z => Result.ok (Next.enter _ z) _) (by simp only [List.map_toArray, List.map_cons, List.map_nil, show act.eval (.tmp 22) = _ from h4]; try rfl)) (WBytes_R hs.2.1 (by decide)) ?_
    rintro e w2 ⟨u, rfl, ho, hm2⟩
    exact ⟨_, rfl, hm2.mono (fun _ _ h => h.elim), gv_new tr _ w2 hl, ByLen.on hl ⟨Nat.le_trans hs.1 hm2.size, ⟨u, by rw [List.getElem?_append_right (by omega), hl]; rfl, ho.rd.1, ho.2.2⟩, hs.2.2.mod hm2 (fun h => h)⟩⟩
  · intro tr act w' hm hout hsz hd hG hk hub
    have h5 := hd ⟨5, .data⟩ (by simp) rfl _ rfl
    have hl := hk 3 rfl
    have hs := hG.at hl
    obtain ⟨u, h1, h2, h3⟩ := hs.2.1
    have e5 : act.eval (.tmp 23) = u := Option.some.inj (Eq.trans (Eq.symm h5) h1)
    refine jc_call (args := #[u]) (by rfl) rfl (wanted_none rfl) (by rw [ex_callF rfl Try.func61 (by kernel_rfl) (by kernel_rfl)]; exact congrArg (fun z => Result.ok (Next.enter _ z) _) (by simp only [List.map_toArray, List.map_cons, List.map_nil, show act.eval (.tmp 23) = _ from e5]; try rfl)) (Sum_any u _ _ h2 h3) ?_
    rintro e w2 ⟨rfl, hm2⟩
    exact ⟨_, rfl, hm2.mono (fun _ _ h => h.elim), rfl, ByLen.on hl ⟨Nat.le_trans hs.1 hm2.size, hs.2.2.mod hm2 (fun h => h)⟩⟩
  · intro tr act w' hm hout hsz hd hG hk hub
    have h6 := hd ⟨6, .data⟩ (by simp) rfl _ rfl
    have hl := hk 4 rfl
    have hs := hG.at hl
    have hE : (act.eval (.tmp 24)).cells = ((shaF (ofT a b h bs)).map bv).toArray := by rw [show act.eval (.tmp 24) = _ from h6]; rfl
    refine jc_turn (by rfl) rfl (wanted_none rfl) (ex_storeA rfl hs.2 (off := 0) (vs := (shaF (ofT a b h bs)).map bv) (by rw [List.length_map, shaF_len]; exact size_hash) (ints_oneCell .u8 _) (by simp [shaF_len]) ((hout 6 (by decide)).trans oe6) hE) (setRow_Mod.mono (fun _ _ h => Or.inr ⟨hl, h⟩)) (gv_new tr _ w' hl) (ByLen.on hl ⟨Nat.le_trans hs.1 setRow_Mod.size, ?_⟩)
    rw [lay_whole _ _ (by simp [shaF_len])]
    exact setRow_Cs hs.2
  intro vs tr w3 hl htl hm hG hV
  obtain ⟨v0, vs0, rfl, hl0⟩ := list_cons hl
  obtain ⟨v1, vs1, rfl, hl1⟩ := list_cons hl0
  obtain ⟨v2, vs2, rfl, hl2⟩ := list_cons hl1
  obtain ⟨v3, vs3, rfl, hl3⟩ := list_cons hl2
  obtain ⟨v4, vs4, rfl, hl4⟩ := list_cons hl3
  obtain ⟨v5, vs5, rfl, hl5⟩ := list_cons hl4
  obtain ⟨v6, vs6, rfl, hl6⟩ := list_cons hl5
  obtain ⟨v7, vs7, rfl, hl7⟩ := list_cons hl6
  obtain rfl := list_nil hl7
  clear hl hl0 hl1 hl2 hl3 hl4 hl5 hl6 hl7
  have ha0 := HA0.out
  subst ha0
  clear HA0 hV hsz0 oe2 oe4 oe6 oe7
  simp only [putAll, Act.put, List.setIfInBounds_toArray, List.set_cons_zero, List.set_cons_succ, List.set_nil]
  have hs := hG.at htl
  have hsz : (Try.prog.info? 28).map (·.size) = some ((shaF (ofT a b h bs)).map bv).length := by rw [List.length_map, shaF_len]; exact size_hash
  go_wp2
  exact bodyPost_ret (results_cellA rfl _ _ (w.heap.size + 1 + 1) ((shaF (ofT a b h bs)).map bv) rfl (fun k u hu => by rw [Cs.cell hs.2]; simpa [ofT] using hu) Try.underlying28 rfl hsz) rfl ⟨rfl, KM2.out.trans hm (fun k h1 h2 => by omega)⟩
end Go.Proofs.Ytgnmdnmmemdemaa

/- commit.Text. -/
set_option maxRecDepth 100000
set_option linter.unusedVariables false
namespace Go.Proofs.Ytgnmdnmmemdemaa
open Go Go.RowKit Go.Gv

/-- a commitment -/
structure Cm where
  cl : Int
  sq : Int
  h : List Int
  ln : Int
  sb : Int
  mr : Int
def Cm.cells (c : Cm) : List Value := [.int .i64 c.cl, .int .i64 c.sq] ++ (c.h.map bv ++ [.int .i64 c.ln, .int .i64 c.sb, .int .i64 c.mr])
def Cm.val (c : Cm) : Value := .agg c.cells.toArray
/-- its numbers are numbers, its hash is one -/
def Cm.OK (c : Cm) : Prop := (I64 c.cl ∧ I64 c.sq ∧ I64 c.ln ∧ I64 c.sb ∧ I64 c.mr) ∧ c.h.length = 32 ∧ Bytes c.h
theorem Cm.len {c : Cm} (h : c.h.length = 32) : c.cells.length = 37 := by simp [Cm.cells, h]
theorem size_commit : (Try.prog.info? 32).map (·.size) = some 37 := by kernel_rfl
section
variable {w : World} {g : Nat} {c : Cm} {T : TypeId}
end
end Go.Proofs.Ytgnmdnmmemdemaa
namespace Go.Gv
open Go Go.RowKit Go.Proofs.Ytgnmdnmmemdemaa
section
variable {w : World} {g : Nat} {c : Cm} {T : TypeId}
theorem Cs.c0 (h : Cs w g c.cells.toArray T) : w.cell? ⟨g, 0, none⟩ = some (.int .i64 c.cl) := by rw [h.cell]; rfl
theorem Cs.c1 (h : Cs w g c.cells.toArray T) : w.cell? ⟨g, 1, none⟩ = some (.int .i64 c.sq) := by rw [h.cell]; rfl
theorem Cs.far (h : Cs w g c.cells.toArray T) (hl : c.h.length = 32) (j : Nat) : w.cell? ⟨g, 34 + j, none⟩ = ([Value.int .i64 c.ln, .int .i64 c.sb, .int .i64 c.mr] : List Value)[j]? := by
  rw [h.cell]
  simp only [List.getElem?_toArray, Cm.cells]
  rw [List.getElem?_append_right (by simp; omega), List.getElem?_append_right (by simp [hl]; omega)]
  simp only [List.length_cons, List.length_nil, List.length_map, hl]
  congr 1
  omega
theorem Cs.c34 (h : Cs w g c.cells.toArray T) (hl : c.h.length = 32) : w.cell? ⟨g, 34, none⟩ = some (.int .i64 c.ln) := Cs.far h hl 0
theorem Cs.c35 (h : Cs w g c.cells.toArray T) (hl : c.h.length = 32) : w.cell? ⟨g, 35, none⟩ = some (.int .i64 c.sb) := Cs.far h hl 1
theorem Cs.c36 (h : Cs w g c.cells.toArray T) (hl : c.h.length = 32) : w.cell? ⟨g, 36, none⟩ = some (.int .i64 c.mr) := Cs.far h hl 2
theorem Cs.hash (h : Cs w g c.cells.toArray T) : ∀ j u, (c.h.map bv)[j]? = some u → w.cell? ⟨g, 2 + j, none⟩ = some u := by
  intro j u hu
  rw [h.cell]
  simp only [List.getElem?_toArray, Cm.cells]
  rw [List.getElem?_append_right (by simp), List.getElem?_append_left (by simpa using (List.getElem?_eq_some_iff.1 hu).1)]
  simpa using hu
theorem Cs.name (h : Cs w g c.cells.toArray T) : ∀ j u, ([Value.int .i64 c.cl, .int .i64 c.sq] : List Value)[j]? = some u → w.cell? ⟨g, 0 + j, none⟩ = some u := by
  intro j u hu
  rw [Nat.zero_add, h.cell]
  simp only [List.getElem?_toArray, Cm.cells]
  rw [List.getElem?_append_left (List.getElem?_eq_some_iff.1 hu).1]
  exact hu
theorem Cs.sig (h : Cs w g c.cells.toArray T) (hl : c.h.length = 32) : ∀ j u, ([Value.int .i64 c.sb, .int .i64 c.mr] : List Value)[j]? = some u → w.cell? ⟨g, 35 + j, none⟩ = some u := by
  intro j u hu
  have := Cs.far h hl (1 + j)
  rw [show 34 + (1 + j) = 35 + j by omega] at this
  rw [this, Nat.add_comm]
  exact hu
theorem Cs.whole {cs : List Value} (h : Cs w g cs.toArray T) : ∀ j u, cs[j]? = some u → w.cell? ⟨g, 0 + j, none⟩ = some u := by
  intro j u hu
  rw [Nat.zero_add, h.cell]
  simpa using hu
end
end Go.Gv
namespace Go.Proofs.Ytgnmdnmmemdemaa
open Go Go.RowKit Go.Gv
def requestLit : List Int := [114, 101, 113, 117, 101, 115, 116]
def txC (c : Cm) : Nat → List Int
  | 0 | 1 => []
  | 2 => encN requestLit.length ++ requestLit
  | 3 => (encN requestLit.length ++ requestLit) ++ encI c.cl
  | 4 => ((encN requestLit.length ++ requestLit) ++ encI c.cl) ++ encI c.sq
  | 5 => (((encN requestLit.length ++ requestLit) ++ encI c.cl) ++ encI c.sq) ++ c.h
  | _ => ((((encN requestLit.length ++ requestLit) ++ encI c.cl) ++ encI c.sq) ++ c.h) ++ encI c.ln
def txT (c : Cm) : List Int := txC c 6
def TxSt (B g : Nat) (ct : Nat → List Int) : Nat → List Value → World → Prop := fun k t w => B ≤ w.heap.size ∧ match k with
  | 0 => WrR (fun k => B ≤ k) (Nf 4) w g (ct 4)
  | 1 => WrR (fun k => B ≤ k) (Nf 4 + 32) w g (ct 5)
  | 2 => WrR (fun k => B ≤ k) 500 w g (ct 6)
  | _ => ∃ v, t[2]? = some v ∧ OwR (fun k => B ≤ k) 500 w v (ct 6)
theorem TxSt_still {B g : Nat} {ct : Nat → List Int} : ∀ k t w w', TxSt B g ct k t w → Mod (fun _ => False) w w' → TxSt B g ct k t w' := by
  rintro k t w w' ⟨h0, h⟩ hm
  refine ⟨Nat.le_trans h0 hm.size, ?_⟩
  match k, h with
  | 0, h | 1, h | 2, h => exact WrR.mod h hm (fun _ _ h => h)
  | k + 3, ⟨v, h1, h2⟩ => exact ⟨v, h1, h2.mod hm (fun _ _ h => h)⟩
set_option maxHeartbeats 1000000 in
theorem Text_any (c : Cm) (w : World) (hc : c.OK) :
    Calls Try.prog 30 #[c.val] w fun e w' => ∃ v, e = .returned v ∧ OwR (fun k => w.heap.size ≤ k) 500 w' v (txT c) ∧ Mod (fun _ => False) w w' := by
  have HC := Lib.hid hc.1
  have HL := Lib.hid hc.2.1
  have HBy := Lib.hid hc.2.2
  clear hc
  change Calls _ _ #[.agg c.cells.toArray] _ _
  go_enter Try.func30, Try.ntmps30
  go_upto_region 1 with (fail)
  obtain ⟨w1, hw1⟩ : ∃ x, x = w.alloc (.cells c.cells.toArray 32) := ⟨_, rfl⟩
  change Code.wp _ _ _ _ (w.alloc (.cells c.cells.toArray 32))
  rw [← hw1]
  have KN := Lib.hid (show Cs w1 w.heap.size c.cells.toArray 32 by rw [hw1]; exact Cs.new _ _ _)
  have KM := Lib.hid (show Mod (fun _ => False) w w1 by rw [hw1]; exact (Mod.refl _ _).alloc _)
  have hs1 : w1.heap.size = w.heap.size + 1 := by rw [hw1]; simp
  clear hw1
  obtain ⟨B, hBB⟩ : ∃ B, B = w1.heap.size := ⟨_, rfl⟩
  have HBE := Lib.hid hBB
  have hB3 : B = w.heap.size + 1 := by omega
  clear hBB
  generalize ha0 : Act.mk _ _ = a0
  have oe1 : a0.eval (.tmp 1) = .pointer (some ⟨w.heap.size, 0, none⟩) := by rw [← ha0]; rfl
  have hsz0 : a0.tmps.size = 24 := by rw [← ha0]; rfl
  have HA0 := Lib.hid ha0
  clear ha0
  refine wp_region_G 24 hsz0 (by kernel_rfl) (by kernel_rfl) [4, 5, 6, 7, 8, 9, 10, 11, 12, 13, 14, 15, 3] (by kernel_rfl) (by decide) (fun j => B ≤ j) (WcS B) (WcS_T B) (StillM B 5 1) stillM_still stillM_T [gv 0, litG B 5 1 (requestLit.map bv).toArray, litG B 5 1 (requestLit.map bv).toArray, gv 1, gi (.pointer (some ⟨w.heap.size, 0, none⟩)), gi (.pointer (some ⟨w.heap.size, 0, none⟩)), gi (.int .i64 c.cl), gv 2, gi (.pointer (some ⟨w.heap.size, 0, none⟩)), gi (.pointer (some ⟨w.heap.size, 1, none⟩)), gi (.int .i64 c.sq), gv 3, gv 3] ⟨gv_stable, litG_stable (fun k hk j h => by have := h.1; omega), litG_stable (fun k hk j h => by have := h.1; omega), gv_stable, gi_stable, gi_stable, gi_stable, gv_stable, gi_stable, gi_stable, gi_stable, gv_stable, gv_stable, trivial⟩ [0, 3, 7, 11] (by kernel_rfl) (by decide) (by kernel_rfl) (WcG B (txC c)) WcG_still (WcG_nil (Nat.le_of_eq HBE.out)) ⟨?_, ?_, ?_, ?_, ?_, ?_, ?_, ?_, ?_, ?_, ?_, ?_, ?_, trivial⟩ ?_
  · intro tr act w' hm hout hsz hd hG hk hub
    have hl := hk 0 rfl
    refine jc_call (args := #[]) (by rfl) rfl (wanted_none rfl) (by rw [ex_callF rfl Try.func58 (by kernel_rfl) (by kernel_rfl)]; simp) (NewWriter_any _) ?_
    rintro e w2 ⟨rfl, hW, hm2⟩
    exact ⟨_, rfl, hm2.mono (fun _ _ h => h.elim), gv_new tr _ w2 hl, WcG_new hG hl (Nat.le_refl _) hW hm2⟩
  · intro tr act w' hm hout hsz hd hG hk hub
    refine jg_run (by rfl) rfl (wanted_none rfl) (ex_lit rfl Try.underlying36 (by kernel_rfl) (by decide) (C := (requestLit.map bv).toArray) (by simp only [List.map_toArray, List.map_cons, List.map_nil, Act.eval]; kernel_rfl)) (Or.inl ((Mod.refl _ _).alloc _)) ?_
    exact fun _ => ⟨_, rfl, hG.1, _, Or.inl rfl, heap_alloc_new _ _⟩
  · intro tr act w' hm hout hsz hd hG hk hub
    have h1 := hd ⟨1, .data⟩ (by simp) rfl _ rfl
    have hle := hub 1 3 rfl (by kernel_rfl)
    obtain ⟨g, e1, hB, m, h0', hb⟩ := h1 hle
    exact jg_mark (by rfl) rfl (wanted_none rfl) rfl Try.underlying36 Try.underlying5 h0' hB hb e1 (fun _ hmk => Or.inr ⟨hle, hmk⟩) (fun _ hb2 _ => ⟨g, rfl, hB, _, Or.inr rfl, hb2⟩)
  · intro tr act w' hm hout hsz hd hG hk hub
    have h0 := hd ⟨0, .data⟩ (by simp) rfl _ rfl
    have h2 := hd ⟨2, .data⟩ (by simp) rfl _ rfl
    have hl := hk 1 rfl
    exact jc_call (args := #[act.eval (.tmp 4), act.eval (.tmp 6)]) (by rfl) rfl (wanted_none rfl) (by rw [ex_callF rfl Try.func59 (by kernel_rfl) (by kernel_rfl)]; exact congrArg (fun z => Result.ok (Next.enter _ z) _) (by simp only [List.map_toArray, List.map_cons, List.map_nil]; try rfl)) (Wc_row hG hl h0 h2 (by unfold Bytes; decide) (by decide) rfl) (fun _ _ h => h)
  · intro tr act w' hm hout hsz hd hG hk hub
    refine jg_run (by rfl) rfl (wanted_none rfl) (ex_field rfl Try.underlying32 rfl (by kernel_rfl) ((hout 1 (by decide)).trans oe1)) (Or.inl (Mod.refl _ _)) ?_
    rfl
  · intro tr act w' hm hout hsz hd hG hk hub
    have h4 := hd ⟨4, .data⟩ (by simp) rfl _ rfl
    refine jg_run (by rfl) rfl (wanted_none rfl) (ex_field rfl Try.underlying26 rfl (by kernel_rfl) h4) (Or.inl (Mod.refl _ _)) ?_
    rfl
  · intro tr act w' hm hout hsz hd hG hk hub
    have h5 := hd ⟨5, .data⟩ (by simp) rfl _ rfl
    exact jg_run (by rfl) rfl (wanted_none rfl) (ex_load1 rfl Try.underlying3 rfl h5 ((KN.out.mod hm (by omega)).c0)) (Or.inl (Mod.refl _ _)) rfl
  · intro tr act w' hm hout hsz hd hG hk hub
    have h3 := hd ⟨3, .data⟩ (by simp) rfl _ rfl
    have h6 := hd ⟨6, .data⟩ (by simp) rfl _ rfl
    have hl := hk 2 rfl
    exact jc_call (args := #[act.eval (.tmp 7), .int .i64 c.cl]) (by rfl) rfl (wanted_none rfl) (by rw [ex_callF rfl Try.func60 (by kernel_rfl) (by kernel_rfl)]; exact congrArg (fun z => Result.ok (Next.enter _ z) _) (by simp only [List.map_toArray, List.map_cons, List.map_nil, show act.eval (.tmp 10) = _ from h6]; try rfl)) (Wc_int hG hl (by decide) (by decide) h3 HC.out.1 rfl) (fun _ _ h => h)
  · intro tr act w' hm hout hsz hd hG hk hub
    refine jg_run (by rfl) rfl (wanted_none rfl) (ex_field rfl Try.underlying32 rfl (by kernel_rfl) ((hout 1 (by decide)).trans oe1)) (Or.inl (Mod.refl _ _)) ?_
    rfl
  · intro tr act w' hm hout hsz hd hG hk hub
    have h8 := hd ⟨8, .data⟩ (by simp) rfl _ rfl
    refine jg_run (by rfl) rfl (wanted_none rfl) (ex_field rfl Try.underlying26 rfl (by kernel_rfl) h8) (Or.inl (Mod.refl _ _)) ?_
    rfl
  · intro tr act w' hm hout hsz hd hG hk hub
    have h9 := hd ⟨9, .data⟩ (by simp) rfl _ rfl
    exact jg_run (by rfl) rfl (wanted_none rfl) (ex_load1 rfl Try.underlying3 rfl h9 ((KN.out.mod hm (by omega)).c1)) (Or.inl (Mod.refl _ _)) rfl
  · intro tr act w' hm hout hsz hd hG hk hub
    have h7 := hd ⟨7, .data⟩ (by simp) rfl _ rfl
    have h10 := hd ⟨10, .data⟩ (by simp) rfl _ rfl
    have hl := hk 3 rfl
    exact jc_call (args := #[act.eval (.tmp 11), .int .i64 c.sq]) (by rfl) rfl (wanted_none rfl) (by rw [ex_callF rfl Try.func60 (by kernel_rfl) (by kernel_rfl)]; exact congrArg (fun z => Result.ok (Next.enter _ z) _) (by simp only [List.map_toArray, List.map_cons, List.map_nil, show act.eval (.tmp 14) = _ from h10]; try rfl)) (Wc_int hG hl (by decide) (by decide) h7 HC.out.2.1 rfl) (fun _ _ h => h)
  · intro tr act w' hm hout hsz hd hG hk hub
    have h11 := hd ⟨11, .data⟩ (by simp) rfl _ rfl
    exact jg_run (by rfl) rfl (wanted_none rfl) (ex_assign rfl rfl) (Or.inl (Mod.refl _ _)) h11
  intro vs tr w2 hl htl hm hG hV
  obtain ⟨v0, vs0, rfl, hl0⟩ := list_cons hl
  obtain ⟨v1, vs1, rfl, hl1⟩ := list_cons hl0
  obtain ⟨v2, vs2, rfl, hl2⟩ := list_cons hl1
  obtain ⟨v3, vs3, rfl, hl3⟩ := list_cons hl2
  obtain ⟨v4, vs4, rfl, hl4⟩ := list_cons hl3
  obtain ⟨v5, vs5, rfl, hl5⟩ := list_cons hl4
  obtain ⟨v6, vs6, rfl, hl6⟩ := list_cons hl5
  obtain ⟨v7, vs7, rfl, hl7⟩ := list_cons hl6
  obtain ⟨v8, vs8, rfl, hl8⟩ := list_cons hl7
  obtain ⟨v9, vs9, rfl, hl9⟩ := list_cons hl8
  obtain ⟨v10, vs10, rfl, hl10⟩ := list_cons hl9
  obtain ⟨v11, vs11, rfl, hl11⟩ := list_cons hl10
  obtain ⟨v12, vs12, rfl, hl12⟩ := list_cons hl11
  obtain rfl := list_nil hl12
  clear hl hl0 hl1 hl2 hl3 hl4 hl5 hl6 hl7 hl8 hl9 hl10 hl11 hl12
  have f12 := hV 12 _ rfl
  have ha0 := HA0.out
  subst ha0
  clear HA0 hV hsz0 oe1
  simp only [putAll, Act.put, List.setIfInBounds_toArray, List.set_cons_zero, List.set_cons_succ]
  obtain ⟨g, rfl, -, hgB, -, hw⟩ := WcG_val hG f12
  have hw4 := hw (by rw [htl]; decide)
  rw [show tr.length = 4 from htl] at hw4
  have KN2 := Lib.hid (KN.out.mod hm (by omega))
  have HG0 := Lib.hid (show ByLen (TxSt B g (txC c)) [] w2 from ⟨hG.1, hw4⟩)
  have KM2 := Lib.hid (KM.out.trans hm (fun k h1 h2 => by omega))
  clear hG hm hw hw4 f12 htl
  go_upto_region 2 with (fail)
  generalize ha0 : Act.mk _ _ = a0
  have oe1 : a0.eval (.tmp 1) = .pointer (some ⟨w.heap.size, 0, none⟩) := by rw [← ha0]; rfl
  have oe3 : a0.eval (.tmp 3) = .pointer (some ⟨g, 0, none⟩) := by rw [← ha0]; rfl
  have hsz0 : a0.tmps.size = 24 := by rw [← ha0]; rfl
  have HA0 := Lib.hid ha0
  clear ha0
  refine wp_region_G 24 hsz0 (by kernel_rfl) (by kernel_rfl) [16, 17, 18, 19, 20, 21, 22, 23, 2] (by kernel_rfl) (by decide) (fun j => B ≤ j) (fun k j => B ≤ j) (fun k j h => h) Still (fun _ _ _ h => h) (fun _ _ _ hm h => hm.trans h (fun _ _ h => h.elim)) [gi (.pointer (some ⟨g, 0, none⟩)), gi (.pointer (some ⟨w.heap.size, 2, none⟩)), gi (hv c.h), gi (.pointer (some ⟨g, 0, none⟩)), gi (.pointer (some ⟨w.heap.size, 34, none⟩)), gi (.int .i64 c.ln), gi (.pointer (some ⟨g, 0, none⟩)), gv 2, gv 2] ⟨gi_stable, gi_stable, gi_stable, gi_stable, gi_stable, gi_stable, gi_stable, gv_stable, gv_stable, trivial⟩ [3, 6, 7] (by kernel_rfl) (by decide) (by kernel_rfl) (ByLen (TxSt B g (txC c))) (ByLen.still TxSt_still) HG0.out ⟨?_, ?_, ?_, ?_, ?_, ?_, ?_, ?_, ?_, trivial⟩ ?_
  · intro tr act w' hm hout hsz hd hG hk hub
    exact jg_run (by rfl) rfl (wanted_none rfl) (ex_move rfl ((hout 3 (by decide)).trans oe3)) (Mod.refl _ _) rfl
  · intro tr act w' hm hout hsz hd hG hk hub
    refine jg_run (by rfl) rfl (wanted_none rfl) (ex_field rfl Try.underlying32 rfl (by kernel_rfl) ((hout 1 (by decide)).trans oe1)) (Mod.refl _ _) ?_
    rfl
  · intro tr act w' hm hout hsz hd hG hk hub
    have h1 := hd ⟨1, .data⟩ (by simp) rfl _ rfl
    exact jg_run (by rfl) rfl (wanted_none rfl) (ex_loadA rfl Try.underlying28 rfl (off := 2) (cs := c.h.map bv) (by rw [List.length_map, HL.out]; exact size_hash) h1 ((KN2.out.mod hm (by omega)).hash)) (Mod.refl _ _) rfl
  · intro tr act w' hm hout hsz hd hG hk hub
    have h0 := hd ⟨0, .data⟩ (by simp) rfl _ rfl
    have h2 := hd ⟨2, .data⟩ (by simp) rfl _ rfl
    have hl := hk 0 rfl
    have hs := hG.at hl
    refine jc_call (args := #[.pointer (some ⟨g, 0, none⟩), hv c.h]) (by rfl) rfl (wanted_none rfl) (by rw [ex_callF rfl Try.func62 (by kernel_rfl) (by kernel_rfl)]; exact congrArg (fun z => Result.ok (Next.enter _ z) _) (by simp only [List.map_toArray, List.map_cons, List.map_nil, show act.eval (.tmp 16) = _ from h0, show act.eval (.tmp 18) = _ from h2]; try rfl)) (WHash_R hs.2 HL.out HBy.out (by decide)) ?_
    rintro e w2 ⟨rfl, hw2, hm2⟩
    exact ⟨_, rfl, hm2, rfl, ByLen.on hl ⟨Nat.le_trans hs.1 hm2.size, hw2.widen (fun k hk => by rcases hk with hk | hk; exact hk; exact Nat.le_trans hs.1 hk.1) (Nat.le_refl _)⟩⟩
  · intro tr act w' hm hout hsz hd hG hk hub
    refine jg_run (by rfl) rfl (wanted_none rfl) (ex_field rfl Try.underlying32 rfl (by kernel_rfl) ((hout 1 (by decide)).trans oe1)) (Mod.refl _ _) ?_
    rfl
  · intro tr act w' hm hout hsz hd hG hk hub
    have h4 := hd ⟨4, .data⟩ (by simp) rfl _ rfl
    exact jg_run (by rfl) rfl (wanted_none rfl) (ex_load1 rfl Try.underlying3 rfl h4 ((KN2.out.mod hm (by omega)).c34 HL.out)) (Mod.refl _ _) rfl
  · intro tr act w' hm hout hsz hd hG hk hub
    have h3 := hd ⟨3, .data⟩ (by simp) rfl _ rfl
    have h5 := hd ⟨5, .data⟩ (by simp) rfl _ rfl
    have hl := hk 1 rfl
    have hs := hG.at hl
    refine jc_call (args := #[.pointer (some ⟨g, 0, none⟩), .int .i64 c.ln]) (by rfl) rfl (wanted_none rfl) (by rw [ex_callF rfl Try.func60 (by kernel_rfl) (by kernel_rfl)]; exact congrArg (fun z => Result.ok (Next.enter _ z) _) (by simp only [List.map_toArray, List.map_cons, List.map_nil, show act.eval (.tmp 19) = _ from h3, show act.eval (.tmp 21) = _ from h5]; try rfl)) (WInt_R hs.2 HC.out.2.2.1 (by decide)) ?_
    rintro e w2 ⟨rfl, hw2, hm2⟩
    exact ⟨_, rfl, hm2, rfl, ByLen.on hl ⟨Nat.le_trans hs.1 hm2.size, hw2.widen (fun k hk => by rcases hk with hk | hk; exact hk; exact Nat.le_trans hs.1 hk.1) (by decide)⟩⟩
  · intro tr act w' hm hout hsz hd hG hk hub
    have h6 := hd ⟨6, .data⟩ (by simp) rfl _ rfl
    have hl := hk 2 rfl
    have hs := hG.at hl
    refine jc_call (args := #[.pointer (some ⟨g, 0, none⟩)]) (by rfl) rfl (wanted_none rfl) (by rw [ex_callF rfl Try.func63 (by kernel_rfl) (by kernel_rfl)]; exact congrArg (fun z => Result.ok (Next.enter _ z) _) (by simp only [List.map_toArray, List.map_cons, List.map_nil, show act.eval (.tmp 22) = _ from h6]; try rfl)) (WBytes_R hs.2 (by decide)) ?_
    rintro e w2 ⟨u, rfl, ho, hm2⟩
    exact ⟨_, rfl, hm2.mono (fun _ _ h => h.elim), gv_new tr _ w2 hl, ByLen.on hl ⟨Nat.le_trans hs.1 hm2.size, u, by rw [List.getElem?_append_right (by omega), hl]; rfl, ho.widen (fun k hk => Nat.le_trans hs.1 hk.1) (by decide)⟩⟩
  · intro tr act w' hm hout hsz hd hG hk hub
    have h7 := hd ⟨7, .data⟩ (by simp) rfl _ rfl
    exact jg_run (by rfl) rfl (wanted_none rfl) (ex_assign rfl rfl) (Mod.refl _ _) h7
  intro vs tr w3 hl htl hm hG hV
  obtain ⟨v0, vs0, rfl, hl0⟩ := list_cons hl
  obtain ⟨v1, vs1, rfl, hl1⟩ := list_cons hl0
  obtain ⟨v2, vs2, rfl, hl2⟩ := list_cons hl1
  obtain ⟨v3, vs3, rfl, hl3⟩ := list_cons hl2
  obtain ⟨v4, vs4, rfl, hl4⟩ := list_cons hl3
  obtain ⟨v5, vs5, rfl, hl5⟩ := list_cons hl4
  obtain ⟨v6, vs6, rfl, hl6⟩ := list_cons hl5
  obtain ⟨v7, vs7, rfl, hl7⟩ := list_cons hl6
  obtain ⟨v8, vs8, rfl, hl8⟩ := list_cons hl7
  obtain rfl := list_nil hl8
  clear hl hl0 hl1 hl2 hl3 hl4 hl5 hl6 hl7 hl8
  have f8 := hV 8 _ rfl
  have ha0 := HA0.out
  subst ha0
  clear HA0 hV hsz0 oe1 oe3
  simp only [putAll, Act.put, List.setIfInBounds_toArray, List.set_cons_zero, List.set_cons_succ]
  have hs := hG.at htl
  obtain ⟨u, e1, hu⟩ := hs.2
  obtain rfl : v8 = u := Option.some.inj (Eq.trans (Eq.symm f8) e1)
  go_wp2
  go_ret
  exact ⟨_, rfl, hu.widen (fun k hk => by omega) (Nat.le_refl _), KM2.out.trans hm (fun k h1 h2 => by omega)⟩
end Go.Proofs.Ytgnmdnmmemdemaa

/- Hashes as keys of maps; zeros. -/
set_option maxRecDepth 100000
set_option linter.unusedVariables false
namespace Go.Proofs.Ytgnmdnmmemdemaa
open Go Go.RowKit Go.Gv
open Go.Maps (Keyed)

theorem laidOutX : laidOutB Try.prog = true := by kernel_rfl
/-- a hash -/
def HK (bs : List Int) : Prop := bs.length = 32 ∧ Bytes bs
theorem zero_run {P : Program} {T : TypeId} {z : Value} (h : (P.info? T).bind (·.zero) = some z) (w : World) : (zeroValue T).run P w = .ok z w := by
  obtain ⟨info, hi, hz⟩ := zero_of h
  simp [zeroValue, typeInfo, hi, hz]
theorem zero_int : (Try.prog.info? 3).bind (·.zero) = some (.int .i64 0) := by kernel_rfl
end Go.Proofs.Ytgnmdnmmemdemaa

/- The kinds of things that messages are made of: their cells, what reads as one. -/
set_option maxRecDepth 100000
set_option linter.unusedVariables false
namespace Go.Proofs.Ytgnmdnmmemdemaa
open Go Go.RowKit Go.Gv

/-- a stamp, or an ack -/
structure St where
  rp : Int
  cl : Int
  sq : Int
  h : List Int
  tm : Nat
  sb : Int
  mr : Int
abbrev St.cells (x : St) : List Value := [.int .i64 x.rp, .int .i64 x.cl, .int .i64 x.sq] ++ (x.h.map bv ++ [.int .u64 (x.tm : Nat), .int .i64 x.sb, .int .i64 x.mr])
abbrev St.val (x : St) : Value := .agg x.cells.toArray
structure St.OK (x : St) : Prop where
  rp : I64 x.rp
  cl : I64 x.cl
  sq : I64 x.sq
  h : HK x.h
  tm : x.tm < U64
  sb : I64 x.sb
  mr : I64 x.mr
theorem St.len {x : St} (h : x.OK) : x.cells.length = 38 := by simp [St.cells, h.h.1]
theorem St.one (x : St) : ∀ u ∈ x.cells, u.oneCell' = true := by
  intro u hu
  simp only [St.cells, List.mem_append, List.mem_cons, List.not_mem_nil, or_false, List.mem_map] at hu
  rcases hu with (rfl | rfl | rfl) | ⟨y, -, rfl⟩ | rfl | rfl | rfl <;> rfl
def StR : Rep St := Rep.flat 38 (by decide) St.cells St.OK (fun a h => St.len h) (fun a _ => St.one a)
/-- a vote -/
structure Vt where
  kd : Int
  ep : Int
  rd : Int
  rp : Int
  h : List Int
  sb : Int
  mr : Int
abbrev Vt.cells (x : Vt) : List Value := [.int .i64 x.kd, .int .i64 x.ep, .int .i64 x.rd, .int .i64 x.rp] ++ (x.h.map bv ++ [.int .i64 x.sb, .int .i64 x.mr])
abbrev Vt.val (x : Vt) : Value := .agg x.cells.toArray
structure Vt.OK (x : Vt) : Prop where
  kd : I64 x.kd
  ep : I64 x.ep
  rd : I64 x.rd
  rp : I64 x.rp
  h : HK x.h
  sb : I64 x.sb
  mr : I64 x.mr
theorem Vt.len {x : Vt} (h : x.OK) : x.cells.length = 38 := by simp [Vt.cells, h.h.1]
theorem Vt.one (x : Vt) : ∀ u ∈ x.cells, u.oneCell' = true := by
  intro u hu
  simp only [Vt.cells, List.mem_append, List.mem_cons, List.not_mem_nil, or_false, List.mem_map] at hu
  rcases hu with (rfl | rfl | rfl | rfl) | ⟨y, -, rfl⟩ | rfl | rfl <;> rfl
/-- a denial -/
structure Dn where
  rp : Int
  ix : Int
  sb : Int
  mr : Int
abbrev Dn.cells (x : Dn) : List Value := [.int .i64 x.rp, .int .i64 x.ix, .int .i64 x.sb, .int .i64 x.mr]
abbrev Dn.val (x : Dn) : Value := .agg x.cells.toArray
structure Dn.OK (x : Dn) : Prop where
  rp : I64 x.rp
  ix : I64 x.ix
  sb : I64 x.sb
  mr : I64 x.mr
theorem Dn.len {x : Dn} (h : x.OK) : x.cells.length = 4 := by rfl
theorem Dn.one (x : Dn) : ∀ u ∈ x.cells, u.oneCell' = true := by
  intro u hu
  simp only [Dn.cells, List.mem_cons, List.not_mem_nil, or_false] at hu
  rcases hu with rfl | rfl | rfl | rfl <;> rfl
def DnR : Rep Dn := Rep.flat 4 (by decide) Dn.cells Dn.OK (fun a h => Dn.len h) (fun a _ => Dn.one a)
/-- an entry -/
structure En where
  cl : Int
  sq : Int
  h : List Int
  tm : Nat
abbrev En.cells (x : En) : List Value := [.int .i64 x.cl, .int .i64 x.sq] ++ (x.h.map bv ++ [.int .u64 (x.tm : Nat)])
abbrev En.val (x : En) : Value := .agg x.cells.toArray
structure En.OK (x : En) : Prop where
  cl : I64 x.cl
  sq : I64 x.sq
  h : HK x.h
  tm : x.tm < U64
theorem En.len {x : En} (h : x.OK) : x.cells.length = 35 := by simp [En.cells, h.h.1]
theorem En.one (x : En) : ∀ u ∈ x.cells, u.oneCell' = true := by
  intro u hu
  simp only [En.cells, List.mem_append, List.mem_cons, List.not_mem_nil, or_false, List.mem_map] at hu
  rcases hu with (rfl | rfl) | ⟨y, -, rfl⟩ | rfl <;> rfl
theorem RdR_keep {R : Nat → Prop} {N : Nat} {w w' : World} {v : Value} {bs : List Int} (h : RdR R N w v bs) (hk : ∀ p u, R p.block → w.cell? p = some u → w'.cell? p = some u) : RdR R N w' v bs :=
  ⟨⟨h.1.1, h.1.2.keepc fun h0 g hg p u hp hc => hk p u (hp ▸ h.2.1 h0 g hg) hc⟩, h.2⟩
theorem RdR_tight {R : Nat → Prop} {N : Nat} {w : World} {v : Value} {bs : List Int} (h : RdR R N w v bs) : RdR (fun k => R k ∧ k < w.heap.size) N w v bs :=
  ⟨h.1, fun h0 g hg => ⟨h.2.1 h0 g hg, h.1.2.lt (by decide) h0 hg⟩, h.2.2⟩
theorem Cm_one (c : Cm) : ∀ u ∈ c.cells, u.oneCell' = true := by
  intro u hu
  simp only [Cm.cells, List.mem_append, List.mem_cons, List.not_mem_nil, or_false, List.mem_map] at hu
  rcases hu with (rfl | rfl) | ⟨x, -, rfl⟩ | rfl | rfl | rfl <;> rfl
def CmR : Rep Cm := Rep.flat 37 (by decide) Cm.cells Cm.OK (fun a h => Cm.len h.2.1) (fun a _ => Cm_one a)
/-- a certificate -/
structure Ce where
  c : Cm
  l : List St
abbrev Ce.cells (x : Ce) (v_l : Value) : List Value := x.c.cells ++ [v_l]
def Ce.OK (x : Ce) : Prop := x.c.OK
def Ce.rd (R : Nat → Prop) (w : World) (cs : List Value) (x : Ce) : Prop := ∃ v_l, cs = x.cells v_l ∧ x.OK ∧ RdS StR R w v_l x.l
def CeR : Rep Ce where
  sz := 38
  pos := by decide
  rd := Ce.rd
  len h := by
    obtain ⟨v_l, rfl, hok, h0⟩ := h
    simp [Ce.cells, Cm.len hok.2.1]
  one h := by
    obtain ⟨v_l, rfl, hok, h0⟩ := h
    obtain ⟨_, _, e_l⟩ := h0.shape
    subst e_l
    intro u hu
    simp only [Ce.cells, List.mem_append, List.mem_cons, List.not_mem_nil, or_false, List.mem_map] at hu
    rcases hu with hu | rfl
    · exact Cm_one _ _ hu
    · rfl
  keep h hk := by
    obtain ⟨v_l, rfl, hok, h0⟩ := h
    exact ⟨_, rfl, hok, h0.keep hk⟩
  wid h hs := by
    obtain ⟨v_l, rfl, hok, h0⟩ := h
    exact ⟨_, rfl, hok, h0.widen hs⟩
  tight h := by
    obtain ⟨v_l, rfl, hok, h0⟩ := h
    exact ⟨_, rfl, hok, h0.tight⟩
/-- a promise -/
structure Pm where
  rp : Int
  ep : Int
  fl : Nat
  l : List Ce
  sb : Int
  mr : Int
abbrev Pm.cells (x : Pm) (v_l : Value) : List Value := [.int .i64 x.rp, .int .i64 x.ep, .int .u64 (x.fl : Nat), v_l, .int .i64 x.sb, .int .i64 x.mr]
def Pm.OK (x : Pm) : Prop := I64 x.rp ∧ I64 x.ep ∧ x.fl < U64 ∧ I64 x.sb ∧ I64 x.mr
def Pm.rd (R : Nat → Prop) (w : World) (cs : List Value) (x : Pm) : Prop := ∃ v_l, cs = x.cells v_l ∧ x.OK ∧ RdS CeR R w v_l x.l
def PmR : Rep Pm where
  sz := 6
  pos := by decide
  rd := Pm.rd
  len h := by
    obtain ⟨v_l, rfl, hok, h0⟩ := h
    rfl
  one h := by
    obtain ⟨v_l, rfl, hok, h0⟩ := h
    obtain ⟨_, _, e_l⟩ := h0.shape
    subst e_l
    intro u hu
    simp only [Pm.cells, List.mem_append, List.mem_cons, List.not_mem_nil, or_false, List.mem_map] at hu
    rcases hu with rfl | rfl | rfl | rfl | rfl | rfl <;> rfl
  keep h hk := by
    obtain ⟨v_l, rfl, hok, h0⟩ := h
    exact ⟨_, rfl, hok, h0.keep hk⟩
  wid h hs := by
    obtain ⟨v_l, rfl, hok, h0⟩ := h
    exact ⟨_, rfl, hok, h0.widen hs⟩
  tight h := by
    obtain ⟨v_l, rfl, hok, h0⟩ := h
    exact ⟨_, rfl, hok, h0.tight⟩
/-- an opening -/
structure Op where
  ix : Int
  pl : List Int
  nc : List Int
abbrev Op.cells (x : Op) (v_pl : Value) : List Value := [.int .i64 x.ix, v_pl] ++ x.nc.map bv
def Op.OK (x : Op) : Prop := I64 x.ix ∧ HK x.nc
def Op.rd (R : Nat → Prop) (w : World) (cs : List Value) (x : Op) : Prop := ∃ v_pl, cs = x.cells v_pl ∧ x.OK ∧ RdR R x.pl.length w v_pl x.pl
def OpR : Rep Op where
  sz := 34
  pos := by decide
  rd := Op.rd
  len h := by
    obtain ⟨v_pl, rfl, hok, h0⟩ := h
    simp [Op.cells, hok.2.1]
  one h := by
    obtain ⟨v_pl, rfl, hok, h0⟩ := h
    obtain ⟨_, _, e_pl⟩ := h0.shape
    subst e_pl
    intro u hu
    simp only [Op.cells, List.mem_append, List.mem_cons, List.not_mem_nil, or_false, List.mem_map] at hu
    rcases hu with (rfl | rfl) | ⟨y, -, rfl⟩ <;> rfl
  keep h hk := by
    obtain ⟨v_pl, rfl, hok, h0⟩ := h
    exact ⟨_, rfl, hok, RdR_keep h0 hk⟩
  wid h hs := by
    obtain ⟨v_pl, rfl, hok, h0⟩ := h
    exact ⟨_, rfl, hok, h0.widen hs (Nat.le_refl _)⟩
  tight h := by
    obtain ⟨v_pl, rfl, hok, h0⟩ := h
    exact ⟨_, rfl, hok, RdR_tight h0⟩
/-- a tombstone -/
structure Tb where
  ix : Int
  l : List Dn
abbrev Tb.cells (x : Tb) (v_l : Value) : List Value := [.int .i64 x.ix, v_l]
def Tb.OK (x : Tb) : Prop := I64 x.ix
def Tb.rd (R : Nat → Prop) (w : World) (cs : List Value) (x : Tb) : Prop := ∃ v_l, cs = x.cells v_l ∧ x.OK ∧ RdS DnR R w v_l x.l
def TbR : Rep Tb where
  sz := 2
  pos := by decide
  rd := Tb.rd
  len h := by
    obtain ⟨v_l, rfl, hok, h0⟩ := h
    rfl
  one h := by
    obtain ⟨v_l, rfl, hok, h0⟩ := h
    obtain ⟨_, _, e_l⟩ := h0.shape
    subst e_l
    intro u hu
    simp only [Tb.cells, List.mem_append, List.mem_cons, List.not_mem_nil, or_false, List.mem_map] at hu
    rcases hu with rfl | rfl <;> rfl
  keep h hk := by
    obtain ⟨v_l, rfl, hok, h0⟩ := h
    exact ⟨_, rfl, hok, h0.keep hk⟩
  wid h hs := by
    obtain ⟨v_l, rfl, hok, h0⟩ := h
    exact ⟨_, rfl, hok, h0.widen hs⟩
  tight h := by
    obtain ⟨v_l, rfl, hok, h0⟩ := h
    exact ⟨_, rfl, hok, h0.tight⟩
/-- a batch -/
structure Ba where
  ep : Int
  tm : Nat
  ps : List Pm
  os : List Op
  ts : List Tb
abbrev Ba.cells (x : Ba) (v_ps v_os v_ts : Value) : List Value := [.int .i64 x.ep, .int .u64 (x.tm : Nat), v_ps, v_os, v_ts]
def Ba.OK (x : Ba) : Prop := I64 x.ep ∧ x.tm < U64
def Ba.rd (R : Nat → Prop) (w : World) (cs : List Value) (x : Ba) : Prop := ∃ v_ps v_os v_ts, cs = x.cells v_ps v_os v_ts ∧ x.OK ∧ RdS PmR R w v_ps x.ps ∧ RdS OpR R w v_os x.os ∧ RdS TbR R w v_ts x.ts
/-- a proposal -/
structure Pr where
  ep : Int
  rn : Int
  vl : Int
  rp : Int
  ba : Ba
  sb : Int
  mr : Int
abbrev Pr.cells (x : Pr) (v_ps v_os v_ts : Value) : List Value := [.int .i64 x.ep, .int .i64 x.rn, .int .i64 x.vl, .int .i64 x.rp, .int .i64 x.ba.ep, .int .u64 (x.ba.tm : Nat), v_ps, v_os, v_ts, .int .i64 x.sb, .int .i64 x.mr]
def Pr.OK (x : Pr) : Prop := I64 x.ep ∧ I64 x.rn ∧ I64 x.vl ∧ I64 x.rp ∧ x.ba.OK ∧ I64 x.sb ∧ I64 x.mr
def Pr.rd (R : Nat → Prop) (w : World) (cs : List Value) (x : Pr) : Prop := ∃ v_ps v_os v_ts, cs = x.cells v_ps v_os v_ts ∧ x.OK ∧ RdS PmR R w v_ps x.ba.ps ∧ RdS OpR R w v_os x.ba.os ∧ RdS TbR R w v_ts x.ba.ts
end Go.Proofs.Ytgnmdnmmemdemaa

/- Small parts of messages, put as bytes. -/
set_option maxRecDepth 100000
set_option linter.unusedVariables false
namespace Go.Proofs.Ytgnmdnmmemdemaa
open Go Go.RowKit Go.Gv


end Go.Proofs.Ytgnmdnmmemdemaa

/- Parts of messages, put as bytes. -/
set_option maxRecDepth 100000
set_option linter.unusedVariables false
namespace Go.Proofs.Ytgnmdnmmemdemaa
open Go Go.RowKit Go.Gv

end Go.Proofs.Ytgnmdnmmemdemaa

/- Package wire: the texts that are signed, a batch's hash. -/
set_option maxRecDepth 100000
set_option linter.unusedVariables false
namespace Go.Proofs.Ytgnmdnmmemdemaa
open Go Go.RowKit Go.Gv


/-- a word, as a row -/
def wordB (s : ByteArray) : List Int := encN (bytesOf s).length ++ bytesOf s
/-- a function from a thing to bytes; to a hash -/
def Makes {α : Type} (A : Rep α) (F : FuncId) (f : α → List Int) : Prop := ∀ (R2 : Nat → Prop) (cs : List Value) (x : α) (w : World), A.rd R2 w cs x → (∀ k, R2 k → k < w.heap.size) → (f x).length ≤ 900000 →
  Calls Try.prog F #[.agg cs.toArray] w fun e w' => ∃ v', e = .returned v' ∧ OwR (New w w') 900000 w' v' (f x) ∧ Mod (fun _ => False) w w'
def Hashes {α : Type} (A : Rep α) (F : FuncId) (f : α → List Int) : Prop := ∀ (R2 : Nat → Prop) (cs : List Value) (x : α) (w : World), A.rd R2 w cs x → (∀ k, R2 k → k < w.heap.size) → (f x).length ≤ 900000 →
  Calls Try.prog F #[.agg cs.toArray] w fun e w' => e = .returned (hv (shaF (f x))) ∧ Mod (fun _ => False) w w'
end Go.Proofs.Ytgnmdnmmemdemaa

/- The reference's bytes of small things. -/
set_option maxRecDepth 100000
set_option linter.unusedVariables false
namespace Go.Proofs.Ytgnmdnmmemdemaa
open Go Go.RowKit Go.Gv


theorem RefInt_Q (n : Int) (hn : I64 n) (w : World) : Calls Try.prog 67 #[.int .i64 n] w fun e w' => ∃ v', e = .returned v' ∧ OwR (New w w') 900000 w' v' (encI n) ∧ Mod (fun _ => False) w w' :=
  (RefInt_R n hn w).mono fun e w' ⟨v', he, ho, hm⟩ => ⟨v', he, ho.widen (fun _ h => h) (by omega), hm⟩
theorem RefRow_Q {R : Nat → Prop} {N : Nat} {v : Value} {bs : List Int} {w : World} (hr : RdR R N w v bs) (hl : (encN bs.length ++ bs).length ≤ 900000) : Calls Try.prog 66 #[v] w fun e w' => ∃ v', e = .returned v' ∧ OwR (New w w') 900000 w' v' (encN bs.length ++ bs) ∧ Mod (fun _ => False) w w' := by
  have h1 : bs.length ≤ 900000 := by simp only [List.length_append] at hl; omega
  exact (RefRow_R (N := bs.length) ⟨hr.1, hr.2.1, Nat.le_refl _⟩ h1).mono fun e w' ⟨v', he, ho, hm⟩ => ⟨v', he, ⟨ho.1, ho.2.1, hl⟩, hm⟩
theorem RdB_arr3 {w : World} {g off : Nat} {h : List Int} (hc : ∀ j u, (h.map bv)[j]? = some u → w.cell? ⟨g, off + j, none⟩ = some u) (hk : HK h) : RdB w (.slice (some ⟨g, off, none⟩) 32 32) h := by
  refine ⟨hk.2, ?_⟩
  rw [hk.1]
  exact Rd.mk (Nat.le_refl _) (by rw [maxLen_val]; omega) (by simp [hk.1]) fun j y hy => hc j y hy
theorem RefRow_W (s : ByteArray) {L : List Int} (hL : bytesOf s = L) {R : Nat → Prop} {N : Nat} {v : Value} {w : World} (hr : RdR R N w v L) (hl : (wordB s).length ≤ 900000) : Calls Try.prog 66 #[v] w fun e w' => ∃ v', e = .returned v' ∧ OwR (New w w') 900000 w' v' (wordB s) ∧ Mod (fun _ => False) w w' := by
  subst hL
  exact RefRow_Q hr hl
end Go.Proofs.Ytgnmdnmmemdemaa

/- gavellaw02.wakes; bytes.Compare; sha.Less. -/
set_option maxRecDepth 100000
set_option linter.unusedVariables false
namespace Go.Proofs.Ytgnmdnmmemdemaa
open Go Go.RowKit Go.Gv

end Go.Proofs.Ytgnmdnmmemdemaa

/- gavelref01.turn; gavelref01.Sum: the same plain sum. -/
set_option maxRecDepth 100000
set_option linter.unusedVariables false
namespace Go.Proofs.Ytgnmdnmmemdemaa
open Go Go.RowKit Go.Gv

theorem bits_or_comm (k : IntKind) (a b : Int) : bits .or k a b = bits .or k b a := by
  simp only [bits, BitVec.or_comm]
theorem TN_7 (x : Int) (w : World) : Calls Try.prog 83 #[wv x, .int .u64 7] w fun e w' => e = .returned (wv (rr 7 x)) ∧ w = w' := by
  have hr : rr 7 x = bits .or .u32 (x / 128) (IntKind.u32.wrap (x * 33554432)) := by rw [bits_or_comm]; rfl
  have HR := Lib.hid hr
  clear hr
  go_enter Try.func83, Try.ntmps83
  go_wp2
  go_ret
  exact ⟨ret_int (by rw [HR.out]; rfl), rfl⟩
theorem TN_18 (x : Int) (w : World) : Calls Try.prog 83 #[wv x, .int .u64 18] w fun e w' => e = .returned (wv (rr 18 x)) ∧ w = w' := by
  have hr : rr 18 x = bits .or .u32 (x / 262144) (IntKind.u32.wrap (x * 16384)) := by rw [bits_or_comm]; rfl
  have HR := Lib.hid hr
  clear hr
  go_enter Try.func83, Try.ntmps83
  go_wp2
  go_ret
  exact ⟨ret_int (by rw [HR.out]; rfl), rfl⟩
theorem TN_17 (x : Int) (w : World) : Calls Try.prog 83 #[wv x, .int .u64 17] w fun e w' => e = .returned (wv (rr 17 x)) ∧ w = w' := by
  have hr : rr 17 x = bits .or .u32 (x / 131072) (IntKind.u32.wrap (x * 32768)) := by rw [bits_or_comm]; rfl
  have HR := Lib.hid hr
  clear hr
  go_enter Try.func83, Try.ntmps83
  go_wp2
  go_ret
  exact ⟨ret_int (by rw [HR.out]; rfl), rfl⟩
theorem TN_19 (x : Int) (w : World) : Calls Try.prog 83 #[wv x, .int .u64 19] w fun e w' => e = .returned (wv (rr 19 x)) ∧ w = w' := by
  have hr : rr 19 x = bits .or .u32 (x / 524288) (IntKind.u32.wrap (x * 8192)) := by rw [bits_or_comm]; rfl
  have HR := Lib.hid hr
  clear hr
  go_enter Try.func83, Try.ntmps83
  go_wp2
  go_ret
  exact ⟨ret_int (by rw [HR.out]; rfl), rfl⟩
theorem TN_6 (x : Int) (w : World) : Calls Try.prog 83 #[wv x, .int .u64 6] w fun e w' => e = .returned (wv (rr 6 x)) ∧ w = w' := by
  have hr : rr 6 x = bits .or .u32 (x / 64) (IntKind.u32.wrap (x * 67108864)) := by rw [bits_or_comm]; rfl
  have HR := Lib.hid hr
  clear hr
  go_enter Try.func83, Try.ntmps83
  go_wp2
  go_ret
  exact ⟨ret_int (by rw [HR.out]; rfl), rfl⟩
theorem TN_11 (x : Int) (w : World) : Calls Try.prog 83 #[wv x, .int .u64 11] w fun e w' => e = .returned (wv (rr 11 x)) ∧ w = w' := by
  have hr : rr 11 x = bits .or .u32 (x / 2048) (IntKind.u32.wrap (x * 2097152)) := by rw [bits_or_comm]; rfl
  have HR := Lib.hid hr
  clear hr
  go_enter Try.func83, Try.ntmps83
  go_wp2
  go_ret
  exact ⟨ret_int (by rw [HR.out]; rfl), rfl⟩
theorem TN_25 (x : Int) (w : World) : Calls Try.prog 83 #[wv x, .int .u64 25] w fun e w' => e = .returned (wv (rr 25 x)) ∧ w = w' := by
  have hr : rr 25 x = bits .or .u32 (x / 33554432) (IntKind.u32.wrap (x * 128)) := by rw [bits_or_comm]; rfl
  have HR := Lib.hid hr
  clear hr
  go_enter Try.func83, Try.ntmps83
  go_wp2
  go_ret
  exact ⟨ret_int (by rw [HR.out]; rfl), rfl⟩
theorem TN_2 (x : Int) (w : World) : Calls Try.prog 83 #[wv x, .int .u64 2] w fun e w' => e = .returned (wv (rr 2 x)) ∧ w = w' := by
  have hr : rr 2 x = bits .or .u32 (x / 4) (IntKind.u32.wrap (x * 1073741824)) := by rw [bits_or_comm]; rfl
  have HR := Lib.hid hr
  clear hr
  go_enter Try.func83, Try.ntmps83
  go_wp2
  go_ret
  exact ⟨ret_int (by rw [HR.out]; rfl), rfl⟩
theorem TN_13 (x : Int) (w : World) : Calls Try.prog 83 #[wv x, .int .u64 13] w fun e w' => e = .returned (wv (rr 13 x)) ∧ w = w' := by
  have hr : rr 13 x = bits .or .u32 (x / 8192) (IntKind.u32.wrap (x * 524288)) := by rw [bits_or_comm]; rfl
  have HR := Lib.hid hr
  clear hr
  go_enter Try.func83, Try.ntmps83
  go_wp2
  go_ret
  exact ⟨ret_int (by rw [HR.out]; rfl), rfl⟩
theorem TN_22 (x : Int) (w : World) : Calls Try.prog 83 #[wv x, .int .u64 22] w fun e w' => e = .returned (wv (rr 22 x)) ∧ w = w' := by
  have hr : rr 22 x = bits .or .u32 (x / 4194304) (IntKind.u32.wrap (x * 1024)) := by rw [bits_or_comm]; rfl
  have HR := Lib.hid hr
  clear hr
  go_enter Try.func83, Try.ntmps83
  go_wp2
  go_ret
  exact ⟨ret_int (by rw [HR.out]; rfl), rfl⟩
end Go.Proofs.Ytgnmdnmmemdemaa

/- As XVal3; besides: a slot that an operation reads ahead of the one that writes it. No program here. -/
set_option linter.unusedVariables false
namespace Go.Gv
open Go Go.RowKit

section
variable {P : Program} {ops : Array Oper} {Q : Exit → Act → World → Prop}
end
end Go.Gv
