/- Slices of one-cell values (numbers, slices) that are appended to; an Act's fields in the slice itself. -/
import Derived.Test.YtknpapcfhnhheaaPlain2
import Derived.Deep.RegionHeld3
set_option maxRecDepth 100000
set_option linter.unusedVariables false
namespace Go.Proofs.Ytknpapcfhnhheaa
open Go Go.RowKit Go.Gv

def OwV (e : TypeId) (R : Nat → Prop) (N : Nat) (w : World) (v : Value) (cs : List Value) : Prop := Own (fun u => u.oneCell' = true) e 1 w v cs.length cs ∧ (∀ g, v.ownBlock = some g → R g) ∧ cs.length ≤ N
section
variable {e : TypeId} {R R' S : Nat → Prop} {N M : Nat} {w w' : World} {v : Value} {cs : List Value}
theorem OwV.mod (h : OwV e R N w v cs) (hm : Mod S w w') (hs : ∀ k, R k → S k → False) : OwV e R N w' v cs := ⟨Own.mod h.1 hm (fun g hg hS => hs g (h.2.1 g hg) hS), h.2⟩
theorem OwV.widen (h : OwV e R N w v cs) (hs : ∀ k, R k → R' k) (hM : N ≤ M) : OwV e R' M w v cs := ⟨h.1, fun g hg => hs g (h.2.1 g hg), Nat.le_trans h.2.2 hM⟩
theorem OwV.nil (e : TypeId) (R : Nat → Prop) (w : World) : OwV e R 0 w (.slice none 0 0) [] := ⟨Own.nil _ _ _ _, (fun g hg => by cases hg), Nat.le_refl _⟩
theorem OwV.shape (h : OwV e R N w v cs) : ∃ ao cap, v = .slice ao cs.length cap := Own.shape h.1
theorem OwV.at {ao : Option Addr} {n cap : Nat} (h : OwV e R N w (.slice ao n cap) cs) {i : Nat} (hi : i < cs.length) :
    ∃ g, ao = some ⟨g, 0, none⟩ ∧ ∀ j u, cs[j]? = some u → w.cell? ⟨g, j, none⟩ = some u := by
  obtain ⟨hl, _, ⟨hv, hn⟩ | ⟨g, cap', cur, hv, hg, h1, h2, h3, h4, _⟩⟩ := h.1
  · omega
  · simp only [Value.slice.injEq] at hv
    refine ⟨g, hv.1, fun j u hu => ?_⟩
    rw [hg.cell]
    have hj : j < cs.length := (List.getElem?_eq_some_iff.1 hu).1
    rw [← h4, List.getElem?_take, if_pos (by omega)] at hu
    simpa using hu
end
theorem Rd_one (w : World) (u : Value) (e : TypeId) : Rd 1 (w.alloc (.cells #[u] e)) (.slice (some ⟨w.heap.size, 0, none⟩) 1 1) 1 [u] :=
  Rd.mk (Nat.le_refl _) (by rw [maxLen_val]; omega) rfl fun j y hy => by rw [Nat.zero_add, (Cs.new w #[u] e).cell]; simpa using hy

/-- s = append(s, u): u built into a block of its own -/
theorem wpList_appV1 {w : World} {e' : TypeId} {u : Value} {ops : Array Oper} {rest : List Oper} {o : Oper} {a : Act} {Q : Exit → Act → World → Prop} (hgd : o.guard = none) (s x : Operand) (t e : TypeId) (z : Value) (bytes : Nat)
    (ho : o.op = .call { callee := .builtin .append, args := #[s, x], argTypes := #[t, t] }) (ht : Try.prog.underlying t = some (.slice e))
    (hinfo : (Try.prog.info? e).map (fun i => (i.zero, i.size, i.bytes)) = some (some z, 1, bytes)) (hz : z.cells = #[z]) (hz1 : z.oneCell' = true)
    {R : Nat → Prop} {N : Nat} {v : Value} {cs : List Value} (hs : a.eval s = v) (hown : OwV e R N w v cs) (hx : a.eval x = .slice (some ⟨w.heap.size, 0, none⟩) 1 1) (hu : u.oneCell' = true)
    (hroom : (N + 1) * bytes ≤ 140737488355328) (hN : N ≤ 1000000)
    (h : ∀ ao cap w', OwV e (fun k => R k ∨ New w w' k) (N + 1) w' (.slice ao (cs.length + 1) cap) (cs ++ [u]) → Mod R w w' → wpList Try.prog ops Q rest (a.put o.dst (.slice ao (cs.length + 1) cap)) w') :
    wpList Try.prog ops Q (o :: rest) a (w.alloc (.cells #[u] e')) := by
  obtain ⟨i0, hi, hz0, hz1', hz2⟩ := info_parts hinfo
  refine wpList_append hgd s x t ho e i0 z 1 bytes ht hi hz0 hz1' hz2 (by rw [hz]; rfl) (by decide) (by intro y hy; rw [hz] at hy; simp at hy; subst hy; exact hz1) v _ _ hs (Own.alloc hown.1 _) _ 1 [u] hx (Rd_one w u e') (by simpa using hu) (by simpa using hu) ?_ ?_ ?_
  · have := Nat.mul_le_mul_right bytes (show cs.length + 1 ≤ N + 1 by have := hown.2.2; omega); omega
  · have := hown.2.2; rw [maxLen_val]; omega
  · intro ao cap w' ⟨h1, h2, h3⟩
    have hsz : (w.alloc (.cells #[u] e')).heap.size = w.heap.size + 1 := by simp
    have hm : Mod R w w' := ((Mod.refl R w).alloc _).trans (h2.mono (S' := R) (fun k _ hk => hown.2.1 k hk.symm)) (fun _ _ h => h)
    refine h ao cap w' ⟨by rw [List.length_append]; exact h1, ?_, by have := hown.2.2; simp; omega⟩ hm
    intro g hg
    rcases h3 with h3 | ⟨k, h3, hk⟩
    · exact .inl (hown.2.1 g (h3 ▸ hg))
    · rw [h3] at hg
      obtain rfl : k = g := by simpa using hg
      exact .inr ⟨by omega, Own.lt h1 h3⟩
theorem info_int : (Try.prog.info? 3).map (fun i => (i.zero, i.size, i.bytes)) = some (some (.int .i64 0), 1, 8) := by kernel_rfl

section
variable {R : Nat → Prop} {w : World} {g o n cap i : Nat} {l : List Act01} {a : Act01}
theorem RdA_f (h : RdA R w (.slice (some ⟨g, o, none⟩) n cap) l) (hi : i < l.length) (e : l[i] = a) : ∀ j u, a.cells[j]? = some u → w.cell? ⟨g, o + i * 36 + j, none⟩ = some u := by
  obtain ⟨g', o', e', hc⟩ := h.at hi
  simp only [Option.some.injEq, Addr.mk.injEq, and_true] at e'
  obtain ⟨rfl, rfl⟩ := e'
  subst e
  exact hc
theorem RdA_0 (h : RdA R w (.slice (some ⟨g, o, none⟩) n cap) l) (hi : i < l.length) (e : l[i] = a) : w.cell? ⟨g, o + i * 36, none⟩ = some (.int .i64 a.Do) := by simpa using RdA_f h hi e 0 _ rfl
theorem RdA_1 (h : RdA R w (.slice (some ⟨g, o, none⟩) n cap) l) (hi : i < l.length) (e : l[i] = a) : w.cell? ⟨g, o + i * 36 + 1, none⟩ = some (.int .i64 a.N) := RdA_f h hi e 1 _ rfl
theorem RdA_2 (h : RdA R w (.slice (some ⟨g, o, none⟩) n cap) l) (hi : i < l.length) (e : l[i] = a) : w.cell? ⟨g, o + i * 36 + 2, none⟩ = some (.int .u64 a.U) := RdA_f h hi e 2 _ rfl
theorem RdA_3 (h : RdA R w (.slice (some ⟨g, o, none⟩) n cap) l) (hi : i < l.length) (e : l[i] = a) : w.cell? ⟨g, o + i * 36 + 3, none⟩ = some a.VB := RdA_f h hi e 3 _ rfl
theorem RdA_4 (h : RdA R w (.slice (some ⟨g, o, none⟩) n cap) l) (hi : i < l.length) (e : l[i] = a) (hl : a.H.length = 32) (j : Nat) (u : Value) (hu : (a.H.map bv)[j]? = some u) : w.cell? ⟨g, o + i * 36 + 4 + j, none⟩ = some u := by
  have h2 : a.cells[j + 4]? = some u := by rw [← hu, ← Act01.tail_eq hl]; rfl
  have := RdA_f h hi e (j + 4) u h2
  rwa [show o + i * 36 + (j + 4) = o + i * 36 + 4 + j by omega] at this
end
end Go.Proofs.Ytknpapcfhnhheaa
