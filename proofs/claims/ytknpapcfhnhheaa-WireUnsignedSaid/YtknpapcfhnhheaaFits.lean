/- From readings of arguments to typed lists: slices of structs, arrays of bytes. -/
import Derived.Test.YtknpapcfhnhheaaReg
import Derived.Test.YtknpapcfhnhheaaLift
import Derived.Deep.Slices
set_option maxRecDepth 100000
set_option linter.unusedVariables false
namespace Go.Proofs.Ytknpapcfhnhheaa
open Go Go.RowKit Go.Gv Go.ChangeShapes Go.WideShapes Go.ChangeAt Go.Deep

/-- the slice v is the list l, each element s cells -/
def RdE {α : Type} (s : Nat) (cells : α → List Value) (R : Nat → Prop) (w : World) (v : Value) (l : List α) : Prop :=
  (l = [] ∧ ∃ ao cap, v = .slice ao 0 cap) ∨
  ∃ g o cap, R g ∧ v = .slice (some ⟨g, o, none⟩) l.length cap ∧ 0 < l.length ∧ l.length ≤ cap ∧ cap ≤ maxLen ∧ ∀ i (h : i < l.length), ∀ j u, (cells l[i])[j]? = some u → w.cell? ⟨g, o + i * s + j, none⟩ = some u

theorem RdE.mod {α : Type} {s : Nat} {cells : α → List Value} {R S : Nat → Prop} {w w' : World} {v : Value} {l : List α} (h : RdE s cells R w v l) (hm : Mod S w w') (hs : ∀ k, R k → S k → False) : RdE s cells R w' v l := by
  rcases h with h | ⟨g, o, cap, h1, h2, h3, h4, h5, h6⟩
  · exact .inl h
  · exact .inr ⟨g, o, cap, h1, h2, h3, h4, h5, fun i hi j u hu => hm.cell (h6 i hi j u hu) (hs g h1)⟩

section
variable {H : Type} {enc : TypeId × Value → H} {W : World}

theorem trod_arr {t e : TypeId} {n fuel : Nat} {cs : List Value} {x : DataW H × List MemPlace} (ht : Try.prog.underlying t = some (.array n e)) (he : Try.prog.underlying e = some (.int .u8)) (hce : Try.prog.cellsOf e = 1) (hcs : Try.prog.cellsOf t = n)
    (h : DataW.trod enc Try.prog W 0 (fun _ => true) true fuel t cs = some x) : ∃ hs : List Int, cs = hs.map bv ∧ Bytes hs ∧ hs.length = n := by
  obtain ⟨xs, m, _, rfl, hl, hn, hx⟩ := DataW.trod_array ht h
  rw [hcs] at hl
  have key : ∀ i (hi : i < n), ∃ q : Int, cs[i]'(by omega) = bv q ∧ 0 ≤ q ∧ q < 256 := by
    intro i hi
    have := hx i hi
    rw [hce, Nat.mul_one, List.getElem?_eq_getElem (by omega)] at this
    have e1 : (cs.drop i).take 1 = [cs[i]'(by omega)] := by
      rw [List.drop_eq_getElem_cons (by omega : i < cs.length)]; rfl
    rw [e1] at this
    obtain ⟨q, e2, _, hw⟩ := DataW.trod_int he this
    simp at e2
    have hb := bounds_u8 hw
    exact ⟨q, e2, by omega, by omega⟩
  refine ⟨cs.map (intOf ·), ?_, ?_, by simp [hl]⟩
  · apply List.ext_getElem
    · simp
    · intro i h1 h2
      obtain ⟨q, hq, _⟩ := key i (by omega)
      simp [hq, intOf]
  · intro y hy
    obtain ⟨u, hu, rfl⟩ := List.mem_map.1 hy
    obtain ⟨i, hi, rfl⟩ := List.getElem_of_mem hu
    obtain ⟨q, hq, h0, h1⟩ := key i (by omega)
    rw [hq]
    exact ⟨h0, h1⟩

theorem trod_bytes {fuel : Nat} {v : Value} {x : DataW H × List MemPlace} (h : DataW.trod enc Try.prog W 0 (fun _ => true) true fuel 38 [v] = some x) : ∃ bs, RdR (fun k => k < W.heap.size) bs.length W v bs := by
  rcases open_ints Try.underlying38 Try.underlying5 (by kernel_rfl) h with ⟨hcs, _⟩ | ⟨x, len0, cap0, zs, hcs, _, hl, hm, hz, hx, hcell, hwz⟩
  · simp at hcs; subst hcs
    exact ⟨[], RdB.nil _, fun h => by simp at h, Nat.le_refl _⟩
  · simp at hcs; subst hcs
    simp only [if_true] at hz
    have hbl : (zs.take len0).length = len0 := by simp; omega
    refine ⟨zs.take len0, ⟨?_, ?_⟩, ?_, Nat.le_refl _⟩
    · intro y hy
      have := bounds_u8 (hwz y (List.mem_of_mem_take hy))
      omega
    · rw [hbl]
      refine ⟨by simp; omega, some x, cap0, rfl, hl, hm, (fun h => by cases h), ?_⟩
      intro y hy j u hu
      cases hy
      simp only [List.getElem?_map, Option.map_eq_some_iff] at hu
      obtain ⟨q, hq, rfl⟩ := hu
      have hj : j < len0 := by have := (List.getElem?_eq_some_iff.1 hq).1; omega
      rw [List.getElem?_take, if_pos hj] at hq
      have h0 := hcell 0 (by omega)
      refine ⟨by simpa [Addr.add] using World.cell?_spot h0, ?_⟩
      rw [hcell j (by omega)]
      simp [List.getD, hq]
    · intro h0 g hg
      rw [hbl] at h0
      simp [Value.ownBlock] at hg
      subst hg
      have h0 := World.block_lt_of_cell? _ _ (hcell 0 (by omega))
      simpa [Addr.add] using h0

/-- a slice whose elements are read one by one -/
theorem trod_list {α : Type} [Inhabited α] {t e : TypeId} {s fuel : Nat} (cells : α → List Value) (Ok : α → Prop) {v : Value} {x : DataW H × List MemPlace} (ht : Try.prog.underlying t = some (.slice e)) (hce : Try.prog.cellsOf e = s) (hs : 0 < s) (hlen : ∀ a, (cells a).length = s)
    (he : ∀ fuel cs x, DataW.trod enc Try.prog W 0 (fun _ => true) true fuel e cs = some x → ∃ a, cs = cells a ∧ Ok a)
    (h : DataW.trod enc Try.prog W 0 (fun _ => true) true fuel t [v] = some x) : ∃ l : List α, RdE s cells (fun k => k < W.heap.size) W v l ∧ ∀ a ∈ l, Ok a := by
  rcases open_slice ht h with ⟨hcs, _⟩ | ⟨a, len, cap, m, n, D, Pl, hcs, _, hl, hm, hmm, _, hel⟩
  · simp at hcs; subst hcs
    exact ⟨[], .inl ⟨rfl, _, _, rfl⟩, fun a ha => by cases ha⟩
  · simp at hcs; subst hcs
    simp only [if_true] at hmm
    subst hmm
    rcases Nat.eq_zero_or_pos len with rfl | hpos
    · exact ⟨[], .inl ⟨rfl, _, _, rfl⟩, fun a ha => by cases ha⟩
    have key : ∀ i, i < len → ∃ b : α, W.cells? 0 (a.add (i * s)) s = some (cells b) ∧ Ok b := by
      intro i hi
      obtain ⟨cs', h1, h2⟩ := hel i (by omega)
      rw [hce] at h1
      obtain ⟨b, rfl, hb⟩ := he _ _ _ h2
      exact ⟨b, h1, hb⟩
    obtain ⟨f, hf⟩ := choose_lt key
    have cell : ∀ i, i < len → ∀ j u, (cells (f i))[j]? = some u → W.cell? ((a.add (i * s)).add j) = some u := by
      intro i hi j u hu
      obtain ⟨_, hl2, hc2⟩ := World.cells?_some (hf i hi).1
      have hj := (List.getElem?_eq_some_iff.1 hu).1
      rw [hc2 j (by omega), hu]
    have h00 : 0 < (cells (f 0)).length := by rw [hlen]; exact hs
    have c00 := cell 0 hpos 0 _ (List.getElem?_eq_getElem h00)
    have ea : (a.add (0 * s)).add 0 = a := by simp [Addr.add]
    rw [ea] at c00
    have hspot := World.cell?_spot c00
    have hblk := World.block_lt_of_cell? _ _ c00
    obtain ⟨g, o, sp⟩ := a
    simp only at hspot hblk
    subst hspot
    refine ⟨(List.range len).map f, .inr ⟨g, o, m, hblk, by simp, by simpa using hpos, by simpa using hl, hm, ?_⟩, ?_⟩
    · intro i hi j u hu
      simp only [List.length_map, List.length_range] at hi
      have := cell i hi j u (by simpa using hu)
      rw [add_mk, add_mk] at this
      exact this
    · intro b hb
      obtain ⟨i, hi, rfl⟩ := List.mem_map.1 hb
      exact (hf i (by simpa using hi)).2
end
end Go.Proofs.Ytknpapcfhnhheaa
