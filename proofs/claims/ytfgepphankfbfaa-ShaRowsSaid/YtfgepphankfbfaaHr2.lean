/- Texts that are built one behind the other: XLift, XFits, XActs, XRef1, XLoc, XPlain2, XOwV, XNums, XSha5, XWc, XCm1, XCm2, XSet0, XTy, XBld, XVal4, XQ, XIdx, XArith, XQ2, XQ4, XJoin, XQ3, XSha6, XSha7, XVal5, XSha8, XBrows, XRowSum, XRowsO, XBt. No condition. -/
import Derived.Test.YtfgepphankfbfaaHr1
import Derived.ProofKit
import Derived.OpenShut
import Derived.ChangeOld
import Derived.Deep.Slices
import Derived.Deep.RegionHeld3
import Derived.Deep.Cut
import Derived.Laws.Tables
import Derived.Great.FillDense
import Derived.Laws.Small
import Derived.Lib.ConvBytes
import Derived.Lib.BytesEntry
import Derived.Laws.Externs
/- From a reading of the arguments to what the walks take: numbers, slices of bytes. -/
set_option maxRecDepth 100000
namespace Go.Proofs.Ytfgepphankfbfaa
open Go Go.RowKit Go.Gv Go.ChangeShapes Go.WideShapes Go.ChangeAt

theorem i64_bd {a : Int} (h : (Lit.int .i64 a).wf = true) : -9223372036854775808 ≤ a ∧ a ≤ 9223372036854775807 := bounds_i64 h

end Go.Proofs.Ytfgepphankfbfaa

/- From readings of arguments to typed lists: slices of structs, arrays of bytes. -/
set_option maxRecDepth 100000
set_option linter.unusedVariables false
namespace Go.Proofs.Ytfgepphankfbfaa
open Go Go.RowKit Go.Gv Go.ChangeShapes Go.WideShapes Go.ChangeAt Go.Deep

/-- the slice v is the list l, each element s cells -/
def RdE {α : Type} (s : Nat) (cells : α → List Value) (R : Nat → Prop) (w : World) (v : Value) (l : List α) : Prop :=
  (l = [] ∧ ∃ ao cap, v = .slice ao 0 cap) ∨
  ∃ g o cap, R g ∧ v = .slice (some ⟨g, o, none⟩) l.length cap ∧ 0 < l.length ∧ l.length ≤ cap ∧ cap ≤ maxLen ∧ ∀ i (h : i < l.length), ∀ j u, (cells l[i])[j]? = some u → w.cell? ⟨g, o + i * s + j, none⟩ = some u

theorem RdE.mod {α : Type} {s : Nat} {cells : α → List Value} {R S : Nat → Prop} {w w' : World} {v : Value} {l : List α} (h : RdE s cells R w v l) (hm : Mod S w w') (hs : ∀ k, R k → S k → False) : RdE s cells R w' v l := by
  rcases h with h | ⟨g, o, cap, h1, h2, h3, h4, h5, h6⟩
  · exact .inl h
  · exact .inr ⟨g, o, cap, h1, h2, h3, h4, h5, fun i hi j u hu => hm.cell (h6 i hi j u hu) (hs g h1)⟩

section
variable {H : Type} {enc : TypeId × Value → H} {W : World}

theorem trod_bytes {fuel : Nat} {v : Value} {x : DataW H × List MemPlace} (h : DataW.trod enc Try.prog W 0 (fun _ => true) true fuel 22 [v] = some x) : ∃ bs, RdR (fun k => k < W.heap.size) bs.length W v bs := by
  rcases open_ints Try.underlying22 Try.underlying5 (by kernel_rfl) h with ⟨hcs, _⟩ | ⟨x, len0, cap0, zs, hcs, _, hl, hm, hz, hx, hcell, hwz⟩
  · simp at hcs; subst hcs
    exact ⟨[], RdB.nil _, fun h => by simp at h, Nat.le_refl _⟩
  · simp at hcs; subst hcs
    simp only [if_true] at hz
    have hbl : (zs.take len0).length = len0 := by simp; omega
    refine ⟨zs.take len0, ⟨?_, ?_⟩, ?_, Nat.le_refl _⟩
    · intro y hy
      have := bounds_u8 (hwz y (List.mem_of_mem_take hy))
      omega
    · rw [hbl]
      refine ⟨by simp; omega, some x, cap0, rfl, hl, hm, (fun h => by cases h), ?_⟩
      intro y hy j u hu
      cases hy
      simp only [List.getElem?_map, Option.map_eq_some_iff] at hu
      obtain ⟨q, hq, rfl⟩ := hu
      have hj : j < len0 := by have := (List.getElem?_eq_some_iff.1 hq).1; omega
      rw [List.getElem?_take, if_pos hj] at hq
      have h0 := hcell 0 (by omega)
      refine ⟨by simpa [Addr.add] using World.cell?_spot h0, ?_⟩
      rw [hcell j (by omega)]
      simp [List.getD, hq]
    · intro h0 g hg
      rw [hbl] at h0
      simp [Value.ownBlock] at hg
      subst hg
      have h0 := World.block_lt_of_cell? _ _ (hcell 0 (by omega))
      simpa [Addr.add] using h0

/-- a slice whose elements are read one by one -/
theorem trod_list {α : Type} [Inhabited α] {t e : TypeId} {s fuel : Nat} (cells : α → List Value) (Ok : α → Prop) {v : Value} {x : DataW H × List MemPlace} (ht : Try.prog.underlying t = some (.slice e)) (hce : Try.prog.cellsOf e = s) (hs : 0 < s) (hlen : ∀ a, (cells a).length = s)
    (he : ∀ fuel cs x, DataW.trod enc Try.prog W 0 (fun _ => true) true fuel e cs = some x → ∃ a, cs = cells a ∧ Ok a)
    (h : DataW.trod enc Try.prog W 0 (fun _ => true) true fuel t [v] = some x) : ∃ l : List α, RdE s cells (fun k => k < W.heap.size) W v l ∧ ∀ a ∈ l, Ok a := by
  rcases open_slice ht h with ⟨hcs, _⟩ | ⟨a, len, cap, m, n, D, Pl, hcs, _, hl, hm, hmm, _, hel⟩
  · simp at hcs; subst hcs
    exact ⟨[], .inl ⟨rfl, _, _, rfl⟩, fun a ha => by cases ha⟩
  · simp at hcs; subst hcs
    simp only [if_true] at hmm
    subst hmm
    rcases Nat.eq_zero_or_pos len with rfl | hpos
    · exact ⟨[], .inl ⟨rfl, _, _, rfl⟩, fun a ha => by cases ha⟩
    have key : ∀ i, i < len → ∃ b : α, W.cells? 0 (a.add (i * s)) s = some (cells b) ∧ Ok b := by
      intro i hi
      obtain ⟨cs', h1, h2⟩ := hel i (by omega)
      rw [hce] at h1
      obtain ⟨b, rfl, hb⟩ := he _ _ _ h2
      exact ⟨b, h1, hb⟩
    obtain ⟨f, hf⟩ := choose_lt key
    have cell : ∀ i, i < len → ∀ j u, (cells (f i))[j]? = some u → W.cell? ((a.add (i * s)).add j) = some u := by
      intro i hi j u hu
      obtain ⟨_, hl2, hc2⟩ := World.cells?_some (hf i hi).1
      have hj := (List.getElem?_eq_some_iff.1 hu).1
      rw [hc2 j (by omega), hu]
    have h00 : 0 < (cells (f 0)).length := by rw [hlen]; exact hs
    have c00 := cell 0 hpos 0 _ (List.getElem?_eq_getElem h00)
    have ea : (a.add (0 * s)).add 0 = a := by simp [Addr.add]
    rw [ea] at c00
    have hspot := World.cell?_spot c00
    have hblk := World.block_lt_of_cell? _ _ c00
    obtain ⟨g, o, sp⟩ := a
    simp only at hspot hblk
    subst hspot
    refine ⟨(List.range len).map f, .inr ⟨g, o, m, hblk, by simp, by simpa using hpos, by simpa using hl, hm, ?_⟩, ?_⟩
    · intro i hi j u hu
      simp only [List.length_map, List.length_range] at hi
      have := cell i hi j u (by simpa using hu)
      rw [add_mk, add_mk] at this
      exact this
    · intro b hb
      obtain ⟨i, hi, rfl⟩ := List.mem_map.1 hb
      exact (hf i (by simpa using hi)).2
end
end Go.Proofs.Ytfgepphankfbfaa

/- gavellaw01.Act: a call, as an argument holds it. -/
set_option maxRecDepth 100000
set_option linter.unusedVariables false
namespace Go.Proofs.Ytfgepphankfbfaa
open Go Go.RowKit Go.Gv Go.ChangeShapes Go.WideShapes Go.ChangeAt Go.Deep

structure Act01 where
  Do : Int
  N : Int
  U : Nat
  VB : Value
  B : List Int
  H : List Int
instance : Inhabited Act01 := ⟨⟨0, 0, 0, .slice none 0 0, [], List.replicate 32 0⟩⟩
def Act01.tail (a : Act01) : List Value := (List.range 32).map fun i => bv (a.H.getD i 0)
def Act01.cells (a : Act01) : List Value := .int .i64 a.Do :: .int .i64 a.N :: .int .u64 a.U :: a.VB :: a.tail
structure Act01.Ok (W : World) (a : Act01) : Prop where
  d : -9223372036854775808 ≤ a.Do ∧ a.Do ≤ 9223372036854775807
  n : -9223372036854775808 ≤ a.N ∧ a.N ≤ 9223372036854775807
  u : a.U < U64
  b : RdR (fun k => k < W.heap.size) a.B.length W a.VB a.B
  h : a.H.length = 32
  hb : Bytes a.H
theorem Act01.len (a : Act01) : a.cells.length = 36 := by simp [Act01.cells, Act01.tail]
end Go.Proofs.Ytfgepphankfbfaa

/- gavelref01: numbers and rows as bytes. -/
set_option maxRecDepth 100000
set_option linter.unusedVariables false
namespace Go.Proofs.Ytfgepphankfbfaa
open Go Go.RowKit Go.Gv

/-- the blocks of what an append gave: those before, or new ones since w -/
theorem AppB.trans {w0 w w' : World} {v v' : Value} {bs : List Int} (h : AppB w v bs v' w') (hm : Mod (fun _ => False) w0 w) (hf : Fresh w0 v) : Mod (fun _ => False) w0 w' ∧ Fresh w0 v' := by
  obtain ⟨h1, h2, h3⟩ := h
  refine ⟨hm.trans h2 (fun i hi hk => by have := hf i hk.symm; omega), fun g hg => ?_⟩
  rcases h3 with h3 | ⟨k, h3, hk⟩
  · exact hf g (h3 ▸ hg)
  · rw [h3] at hg
    obtain rfl : k = g := by simpa using hg
    exact Nat.le_trans hm.size hk

end Go.Proofs.Ytfgepphankfbfaa

/- Local copies of an Act; lent texts with their blocks. -/
set_option maxRecDepth 100000
set_option linter.unusedVariables false
namespace Go.Proofs.Ytfgepphankfbfaa
open Go Go.RowKit Go.Gv

section
variable {α : Type} {s : Nat} {cells : α → List Value} {R R' S : Nat → Prop} {w w' : World} {v : Value} {l : List α}
theorem RdE.shape (h : RdE s cells R w v l) : ∃ ao cap, v = .slice ao l.length cap ∧ l.length ≤ maxLen := by
  rcases h with ⟨rfl, ao, cap, rfl⟩ | ⟨g, o, cap, _, rfl, _, h1, h2, _⟩
  · exact ⟨ao, cap, rfl, by simp⟩
  · exact ⟨_, cap, rfl, by omega⟩
theorem RdE.at {ao : Option Addr} {n cap : Nat} (h : RdE s cells R w (.slice ao n cap) l) {i : Nat} (hi : i < l.length) :
    ∃ g o, ao = some ⟨g, o, none⟩ ∧ ∀ j u, (cells l[i])[j]? = some u → w.cell? ⟨g, o + i * s + j, none⟩ = some u := by
  rcases h with ⟨rfl, _⟩ | ⟨g, o, cap', _, e, _, _, _, h6⟩
  · exact absurd hi (by simp)
  · simp only [Value.slice.injEq] at e
    exact ⟨g, o, e.1, fun j u => h6 i hi j u⟩
theorem RdE.widen (h : RdE s cells R w v l) (hs : ∀ k, R k → R' k) : RdE s cells R' w v l := by
  rcases h with h | ⟨g, o, cap, h1, h2⟩
  · exact .inl h
  · exact .inr ⟨g, o, cap, hs g h1, h2⟩
end

section
variable {R R' S : Nat → Prop} {w w' : World} {g : Nat} {a : Act01}
end
theorem Act01.one {W : World} {a : Act01} (h : a.Ok W) : ∀ u ∈ a.cells, u.oneCell' = true := by
  intro u hu
  obtain ⟨ao, cap, e⟩ := h.b.shape
  simp only [Act01.cells, Act01.tail, List.mem_cons, List.mem_map] at hu
  rcases hu with rfl | rfl | rfl | rfl | ⟨i, _, rfl⟩
  · rfl
  · rfl
  · rfl
  · rw [e]; rfl
  · rfl
/-- a lent text with its block -/
def LentR (R : Nat → Prop) (N : Nat) (w : World) (v : Value) (bs : List Int) : Prop := Lent w v bs ∧ (∀ g, v.ownBlock = some g → R g) ∧ Bytes bs ∧ bs.length ≤ N ∧ N ≤ 1000000
section
variable {R R' S : Nat → Prop} {N M : Nat} {w w' : World} {v : Value} {bs : List Int}
theorem LentR.mod (h : LentR R N w v bs) (hm : Mod S w w') (hs : ∀ k, R k → S k → False) : LentR R N w' v bs := by
  obtain ⟨⟨g, rfl, hc⟩, h2, h3⟩ := h
  exact ⟨⟨g, rfl, hc.mod hm (hs g (h2 g rfl))⟩, h2, h3⟩
theorem LentR.widen (h : LentR R N w v bs) (hs : ∀ k, R k → R' k) (_hM : N ≤ N) : LentR R' N w v bs := ⟨h.1, fun g hg => hs g (h.2.1 g hg), h.2.2⟩
theorem LentR.rd (h : LentR R N w v bs) : RdR R N w v bs := by
  obtain ⟨⟨g, rfl, hc⟩, h2, h3, h4, h5⟩ := h
  refine ⟨⟨h3, ?_⟩, fun _ => h2, h4⟩
  refine Rd.mk (by omega) (by rw [maxLen_val]; omega) (by simp) fun j u hu => ?_
  rw [Nat.zero_add, hc.cell]
  have hj : j < bs.length := by have := (List.getElem?_eq_some_iff.1 hu).1; simpa using this
  simp only [List.getElem?_map, List.getElem?_toArray] at hu ⊢
  rw [← hu]
  congr 1
  unfold lendc
  rw [List.getElem?_append_left hj]
end
end Go.Proofs.Ytfgepphankfbfaa

/- What calls write, what is read of it, what is read of a strict beginning of it. -/
set_option maxRecDepth 100000
set_option linter.unusedVariables false
namespace Go.Proofs.Ytfgepphankfbfaa
open Go Go.RowKit Go.Gv

theorem RdR.upto {R : Nat → Prop} {N : Nat} {w : World} {ao : Option Addr} {n cap : Nat} {bs : List Int} (h : RdR R N w (.slice ao n cap) bs) (k : Nat) (hk : k ≤ bs.length) : RdR R N w (.slice ao k cap) (bs.take k) := by
  refine ⟨h.1.upto k hk, fun h0 g hg => h.2.1 (by simp at h0; omega) g (by cases ao <;> simp_all [Value.ownBlock]), by have := h.2.2; simp; omega⟩

/-- the state of a reader that has less than all of `full` ahead -/
def SP (s : RSt) (full : List Int) : Prop := s = none ∨ ∃ t, s = some t ∧ t <+: full ∧ t.length < full.length

theorem SP.nil {s : RSt} (h : SP s []) : s = none := by
  rcases h with h | ⟨t, _, _, h⟩
  · exact h
  · simp at h
theorem SP.cut {t a rest : List Int} (h1 : t <+: a ++ rest) (h2 : t.length < (a ++ rest).length) : (t <+: a ∧ t.length < a.length) ∨ ∃ t', t = a ++ t' ∧ SP (some t') rest := by
  rcases Nat.lt_or_ge t.length a.length with h | h
  · exact .inl ⟨List.prefix_of_prefix_length_le h1 (List.prefix_append a rest) (by omega), h⟩
  · obtain ⟨t', rfl⟩ := List.prefix_of_prefix_length_le (List.prefix_append a rest) h1 h
    refine .inr ⟨t', rfl, .inr ⟨t', rfl, (List.prefix_append_right_inj a).1 h1, by simpa using h2⟩⟩

theorem dec_pre : ∀ (m i acc : Nat) (t : List Int), t <+: encN m → t.length < (encN m).length → decGo i acc t = none := by
  intro m
  induction m using Nat.strongRecOn with
  | _ m ih =>
    intro i acc t h1 h2
    by_cases hm : m < 128
    · rw [encN_lt hm] at h2
      obtain rfl : t = [] := List.eq_nil_of_length_eq_zero (by simpa using h2)
      rfl
    · rw [encN_ge (by omega)] at h1 h2
      cases t with
      | nil => rfl
      | cons c t =>
        obtain ⟨rfl, h1'⟩ := List.cons_prefix_cons.1 h1
        simp only [decGo]
        split
        · rfl
        · rw [if_neg (by omega)]
          exact ih (m / 128) (by omega) _ _ t h1' (by simpa using h2)

theorem SP.num {s : RSt} {n : Nat} {rest : List Int} (hn : n < U64) (h : SP s (encN n ++ rest)) : SP (rNum s).2 rest ∧ ((rNum s).2.isSome → (rNum s).1 = n) := by
  rcases h with rfl | ⟨t, rfl, h1, h2⟩
  · exact ⟨.inl rfl, by simp⟩
  · rcases SP.cut h1 h2 with ⟨h3, h4⟩ | ⟨t', rfl, h5⟩
    · have := dec_pre n 0 0 t h3 h4
      simp [rNum, this, SP]
    · rw [rNum_enc hn]
      exact ⟨h5, fun _ => rfl⟩
theorem SP.int {s : RSt} {n : Nat} {rest : List Int} (most : Int) (hn : n < U64) (h : SP s (encN n ++ rest)) : SP (rInt most s).2 rest ∧ ((rInt most s).2.isSome → (rInt most s).1 = n) := by
  have := h.num hn
  unfold rInt
  split
  · exact ⟨.inl rfl, by simp⟩
  · exact this
theorem SP.take {s : RSt} {a rest : List Int} (h : SP s (a ++ rest)) : SP (rTake a.length s).2 rest := by
  rcases h with rfl | ⟨t, rfl, h1, h2⟩
  · exact .inl rfl
  · rcases SP.cut h1 h2 with ⟨h3, h4⟩ | ⟨t', rfl, h5⟩
    · simp [rTake, h4, SP]
    · rw [rTake_app rfl]; exact h5
theorem SP.row {s : RSt} {bs rest : List Int} (most : Int) (hb : bs.length < U64) (h : SP s (encN bs.length ++ bs ++ rest)) : SP (rRow most s).2 rest := by
  rw [List.append_assoc] at h
  have h1 := h.int most hb
  unfold rRow
  cases hs : (rInt most s).2 with
  | none => exact .inl rfl
  | some u =>
    rw [h1.2 (by simp [hs]), ← hs]
    exact h1.1.take
theorem SP.hash {s : RSt} {hh rest : List Int} (hl : hh.length = 32) (h : SP s (hh ++ rest)) : SP (rHash s).2 rest := by
  have h1 := h.take
  rw [hl] at h1
  unfold rHash
  generalize rTake 32 s = q at *
  rcases q with ⟨b, _ | x⟩
  · exact .inl rfl
  · exact h1

section
variable {nm : Int} {row : Nat} {a : Act01}
end
theorem within_nat (v n : Int) (hn : 1 ≤ n) : ∃ k : Nat, within v n = k ∧ (k : Int) < n := by
  have := within_range v n hn
  exact ⟨(within v n).toNat, by omega, by omega⟩
end Go.Proofs.Ytfgepphankfbfaa

/- Slices of one-cell values (numbers, slices) that are appended to; an Act's fields in the slice itself. -/
set_option maxRecDepth 100000
set_option linter.unusedVariables false
namespace Go.Proofs.Ytfgepphankfbfaa
open Go Go.RowKit Go.Gv

def OwV (e : TypeId) (R : Nat → Prop) (N : Nat) (w : World) (v : Value) (cs : List Value) : Prop := Own (fun u => u.oneCell' = true) e 1 w v cs.length cs ∧ (∀ g, v.ownBlock = some g → R g) ∧ cs.length ≤ N
section
variable {e : TypeId} {R R' S : Nat → Prop} {N M : Nat} {w w' : World} {v : Value} {cs : List Value}
theorem OwV.mod (h : OwV e R N w v cs) (hm : Mod S w w') (hs : ∀ k, R k → S k → False) : OwV e R N w' v cs := ⟨Own.mod h.1 hm (fun g hg hS => hs g (h.2.1 g hg) hS), h.2⟩
theorem OwV.widen (h : OwV e R N w v cs) (hs : ∀ k, R k → R' k) (hM : N ≤ M) : OwV e R' M w v cs := ⟨h.1, fun g hg => hs g (h.2.1 g hg), Nat.le_trans h.2.2 hM⟩
theorem OwV.nil (e : TypeId) (R : Nat → Prop) (w : World) : OwV e R 0 w (.slice none 0 0) [] := ⟨Own.nil _ _ _ _, (fun g hg => by cases hg), Nat.le_refl _⟩
theorem OwV.shape (h : OwV e R N w v cs) : ∃ ao cap, v = .slice ao cs.length cap := Own.shape h.1
theorem OwV.at {ao : Option Addr} {n cap : Nat} (h : OwV e R N w (.slice ao n cap) cs) {i : Nat} (hi : i < cs.length) :
    ∃ g, ao = some ⟨g, 0, none⟩ ∧ ∀ j u, cs[j]? = some u → w.cell? ⟨g, j, none⟩ = some u := by
  obtain ⟨hl, _, ⟨hv, hn⟩ | ⟨g, cap', cur, hv, hg, h1, h2, h3, h4, _⟩⟩ := h.1
  · omega
  · simp only [Value.slice.injEq] at hv
    refine ⟨g, hv.1, fun j u hu => ?_⟩
    rw [hg.cell]
    have hj : j < cs.length := (List.getElem?_eq_some_iff.1 hu).1
    rw [← h4, List.getElem?_take, if_pos (by omega)] at hu
    simpa using hu
end
section
variable {R : Nat → Prop} {w : World} {g o n cap i : Nat} {l : List Act01} {a : Act01}
end
end Go.Proofs.Ytfgepphankfbfaa

/- How long a number is; a number that is written longer; a text whose last byte is turned. -/
set_option maxRecDepth 100000
set_option linter.unusedVariables false
namespace Go.Proofs.Ytfgepphankfbfaa
open Go Go.RowKit Go.Gv

theorem OwR.last {R : Nat → Prop} {N : Nat} {w : World} {v : Value} {ini : List Int} {d : Int} (h : OwR R N w v (ini ++ [d])) :
    ∃ g cap, v = .slice (some ⟨g, 0, none⟩) (ini.length + 1) cap ∧ R g ∧ g < w.heap.size ∧ w.cell? ⟨g, ini.length, none⟩ = some (bv d) ∧ w.frozen? ⟨g, ini.length, none⟩ = false ∧
      ∀ y : Int, 0 ≤ y → y < 256 → OwR R N (w.setCell ⟨g, ini.length, none⟩ (bv y)) v (ini ++ [y]) := by
  obtain ⟨h1, h2, h3⟩ := h
  have hby := h1.bytes
  obtain ⟨hl, hE, ⟨rfl, hn⟩ | ⟨g, cap, cur, rfl, hc, q1, q2, q3, q4, q5⟩⟩ := h1
  · simp at hn
  · have q3' : cap ≤ cur.size := by omega
    have hlen : (ini ++ [d]).length = ini.length + 1 := by simp
    rw [hlen] at q1 q4 hl
    refine ⟨g, cap, by rw [hlen], h2 g rfl, hc.lt, ?_, hc.frozen _, fun y h0 hy => ⟨?_, h2, by simpa using h3⟩⟩
    · rw [hc.cell]
      have : cur.toList[ini.length]? = some (bv d) := by
        have e : (cur.toList.take ((ini.length + 1) * 1))[ini.length]? = ((ini ++ [d]).map bv)[ini.length]? := by rw [q4]
        rw [List.getElem?_take, if_pos (by omega)] at e
        rw [e]; simp
      simpa using this
    · refine ⟨by simp, ?_, .inr ⟨g, cap, cur.setIfInBounds ini.length (bv y), by simp, hc.set ini.length (bv y), by simpa using q1, q2, by simpa using q3, ?_, ?_⟩⟩
      · refine isB_all ?_
        intro x hx
        rcases List.mem_append.1 hx with h | h
        · exact hby x (List.mem_append_left _ h)
        · simp at h; subst h; exact ⟨h0, hy⟩
      · rw [Array.toList_setIfInBounds]
        have e2 : (ini ++ [y]).length * 1 = (ini.length + 1) * 1 := by simp
        rw [e2, List.take_set, q4, List.map_append, List.map_append]
        rw [List.set_append_right _ _ (by simp)]
        simp
      · intro u hu
        rw [Array.toList_setIfInBounds] at hu
        rcases List.mem_or_eq_of_mem_set hu with h | h
        · exact q5 u h
        · exact ⟨y, h, h0, hy⟩

/-- s = append(s, x): one byte, built into a block of its own -/
theorem wpList_appR1 {w : World} {e' : TypeId} {y : Int} {ops : Array Oper} {rest : List Oper} {o : Oper} {a : Act} {Q : Exit → Act → World → Prop} (hgd : o.guard = none) (s x : Operand)
    (ho : o.op = .call { callee := .builtin .append, args := #[s, x], argTypes := #[22, 22] })
    {R : Nat → Prop} {N : Nat} {v : Value} {bs : List Int} (hs : a.eval s = v) (hown : OwR R N w v bs) (hx : a.eval x = .slice (some ⟨w.heap.size, 0, none⟩) 1 1) (h0 : 0 ≤ y) (h1 : y < 256)
    (hroom : N + 1 ≤ 1000000)
    (h : ∀ ao cap w', OwR (fun k => R k ∨ New w w' k) (N + 1) w' (.slice ao (bs.length + 1) cap) (bs ++ [y]) → Mod R w w' → wpList Try.prog ops Q rest (a.put o.dst (.slice ao (bs.length + 1) cap)) w') :
    wpList Try.prog ops Q (o :: rest) a (w.alloc (.cells #[bv y] e')) := by
  have hsz : (w.alloc (.cells #[bv y] e')).heap.size = w.heap.size + 1 := by simp
  refine wpList_appR hgd s x ho hs (hown.mod (S := fun _ => False) ((Mod.refl _ _).alloc _) (fun _ _ h => h)) (xv := .slice (some ⟨w.heap.size, 0, none⟩) 1 1) (new := [y]) (R' := fun _ => True) (M := 1) hx ⟨RdB_one w h0 h1 e', fun _ _ _ => trivial, Nat.le_refl _⟩ hroom ?_
  intro ao cap w' hq hm
  refine h ao cap w' (hq.widen (fun k hk => ?_) (Nat.le_refl _)) (((Mod.refl R w).alloc _).trans hm (fun _ _ h => h))
  rcases hk with hk | hk
  · exact .inl hk
  · unfold New at hk ⊢; exact .inr ⟨by omega, hk.2⟩
end Go.Proofs.Ytfgepphankfbfaa

/- sha.Sum. -/
set_option maxRecDepth 100000
set_option linter.unusedVariables false
namespace Go.Proofs.Ytfgepphankfbfaa
open Go Go.RowKit Go.Gv

def padZ (n : Nat) : Nat := (119 - n % 64) % 64
def padded (bs : List Int) (j : Nat) : List Int := bs ++ [128] ++ List.replicate j 0
def lenB (n i : Nat) : Int := ((n : Int) * 8) / 2 ^ (56 - 8 * i) % 256
def fullTo (bs : List Int) (i : Nat) : List Int := padded bs (padZ bs.length) ++ (List.range i).map (lenB bs.length)
def fullB (bs : List Int) : List Int := fullTo bs 8
def blocksTo (fb : List Int) (t : Nat) : List Int := (List.range t).foldl (fun h j => mixF h K256 (fb.drop (64 * j))) H256
def outB (h : List Int) (q : Nat) : Int := (h.getD (q / 4) 0) / 2 ^ (24 - 8 * (q % 4)) % 256
def shaF (bs : List Int) : List Int := (List.range 32).map (outB (blocksTo (fullB bs) ((fullB bs).length / 64)))
theorem padded_len (bs : List Int) (j : Nat) : (padded bs j).length = bs.length + 1 + j := by simp [padded]; omega
theorem padded_succ (bs : List Int) (j : Nat) : padded bs j ++ [0] = padded bs (j + 1) := by
  unfold padded
  rw [List.append_assoc, List.replicate_succ']
theorem pad_iff {n j : Nat} (h : j ≤ padZ n) : (n + 1 + j) % 64 = 56 ↔ j = padZ n := by unfold padZ at *; omega
theorem fullTo_len (bs : List Int) (i : Nat) : (fullTo bs i).length = bs.length + 1 + padZ bs.length + i := by unfold fullTo; rw [List.length_append, padded_len]; simp
theorem fullTo_succ (bs : List Int) (i : Nat) : fullTo bs i ++ [lenB bs.length i] = fullTo bs (i + 1) := by
  unfold fullTo
  rw [List.append_assoc, List.range_succ, List.map_append]
  rfl
theorem full_div (bs : List Int) : (fullB bs).length % 64 = 0 := by unfold fullB; rw [fullTo_len]; unfold padZ; omega
theorem lenB_byte (n i : Nat) : 0 ≤ lenB n i ∧ lenB n i < 256 := by unfold lenB; omega
theorem blocks_succ (fb : List Int) (t : Nat) : blocksTo fb (t + 1) = mixF (blocksTo fb t) K256 (fb.drop (64 * t)) := by unfold blocksTo; rw [List.range_succ, List.foldl_append]; rfl
theorem mixF_len (h k b : List Int) (hl : h.length = 8) : (mixF h k b).length = 8 := by unfold mixF; rw [addTo_len, hl]
theorem blocks_len (fb : List Int) (t : Nat) : (blocksTo fb t).length = 8 := by
  induction t with
  | zero => rfl
  | succ t ih => rw [blocks_succ, mixF_len _ _ _ ih]
theorem shaF_len (bs : List Int) : (shaF bs).length = 32 := by simp [shaF]
theorem Cs_new1 (w : World) (o : Obj) (c : Array Value) (e : TypeId) : Cs ((w.alloc o).alloc (.cells c e)) (w.heap.size + 1) c e := by
  have := Cs.new (w.alloc o) c e
  rwa [show (w.alloc o).heap.size = w.heap.size + 1 by simp] at this
def lenOf : Value → Nat
  | .slice _ n _ => n
  | _ => 0
def outTo (h : List Int) (q : Nat) : List Int := (List.range q).map (outB h) ++ List.replicate (32 - q) 0
theorem outTo_len (h : List Int) (q : Nat) (hq : q ≤ 32) : (outTo h q).length = 32 := by simp [outTo]; omega
theorem outTo_succ (h : List Int) (q : Nat) (hq : q < 32) : (outTo h q).set q (outB h q) = outTo h (q + 1) := by
  unfold outTo
  rw [List.set_append_right _ _ (by simp), List.length_map, List.length_range, Nat.sub_self, List.range_succ, List.map_append, List.append_assoc]
  congr 1
  obtain ⟨k, hk⟩ : ∃ k, 32 - q = k + 1 := ⟨31 - q, by omega⟩
  rw [hk, show 32 - (q + 1) = k by omega, List.replicate_succ]
  rfl
theorem outB_at (h : List Int) (i j : Nat) (hj : j < 4) : outB h (4 * i + j) = (h.getD i 0) / 2 ^ (24 - 8 * j) % 256 := by
  unfold outB
  rw [show (4 * i + j) / 4 = i by omega, show (4 * i + j) % 4 = j by omega]
theorem Cs_setB {w : World} {g : Nat} {bs : List Int} {e : TypeId} (h : Cs w g (bs.map bv).toArray e) (j : Nat) (x : Int) : Cs (w.setCell ⟨g, j, none⟩ (bv x)) g ((bs.set j x).map bv).toArray e := by
  have := h.set j (bv x)
  simpa [List.map_set] using this
structure SumO (w0 : World) (h : List Int) (w : World) : Prop where
  k2 : Cs w w0.heap.size ((List.replicate 32 0).map bv).toArray 26
  k3 : Ws 106 w (w0.heap.size + 1) h
  m : Mod (fun _ => False) w0 w
theorem SumO.mod {S : Nat → Prop} {w0 w w' : World} {h : List Int} (o : SumO w0 h w) (hm : Mod S w w') (hS : ∀ k, S k → w0.heap.size + 2 ≤ k) : SumO w0 h w' :=
  ⟨o.k2.mod hm (fun q => by have := hS _ q; omega), o.k3.mod hm (fun q => by have := hS _ q; omega), o.m.trans hm (fun k hk q => by have := hS _ q; omega)⟩
theorem SumO.put {w0 w w' : World} {h h' : List Int} (o : SumO w0 h w) (hm : Mod (fun k => k = w0.heap.size + 1) w w') (hs : Ws 106 w' (w0.heap.size + 1) h') : SumO w0 h' w' :=
  ⟨o.k2.mod hm (by omega), hs, o.m.trans hm (fun k hk q => by omega)⟩
/-- the padded bytes, in blocks of their own -/
def FulO (w0 : World) (w : World) (v : Value) (bs : List Int) : Prop := OwR (fun k => w0.heap.size + 2 ≤ k) bs.length w v bs
theorem FulO.mod {S : Nat → Prop} {w0 w w' : World} {v : Value} {bs : List Int} (o : FulO w0 w v bs) (hm : Mod S w w') (hS : ∀ k, S k → k < w0.heap.size + 2) : FulO w0 w' v bs := OwR.mod o hm (fun k h1 h2 => by have := hS k h2; omega)

set_option maxHeartbeats 4000000 in
theorem Sum_any (v : Value) (bs : List Int) (w : World) (h : RdB w v bs) (hlen : bs.length ≤ 900000) :
    Calls Try.prog 16 #[v] w fun e w' => e = .returned (hv (shaF bs)) ∧ Mod (fun _ => False) w w' := by
  have hbl := h.block_lt
  have HR := Lib.hid (show RdR (fun k => k < w.heap.size) bs.length w v bs from ⟨h, hbl, Nat.le_refl _⟩)
  obtain ⟨ao, cap, rfl, -, -⟩ := h.shape
  clear h hbl
  go_enter Try.func16, Try.ntmps16
  go_wp2_with ((with_reducible show wpList _ _ _ (Oper.mk none (Op.store 106 (.tmp 3) (.tmp 12)) _ _ _ _ :: _) _ _); go_must (refine wpList_storeA rfl 106 (.tmp 3) (.tmp 12) rfl (Cs_new1 _ _ _ _) (off := 0) (vs := H256.map wv) size_a8 (wv_one _) (by decide) rfl rfl ?_))
  intro w1 hc1 hm1
  rw [lay_whole _ _ (by decide)] at hc1
  have hO : SumO w H256 w1 := by
    refine ⟨?_, ?_, (((Mod.refl _ _).alloc _).alloc _).trans hm1 (by intro k h1 h2; (try dsimp only at h2); omega)⟩
    · refine Cs.mod (((Cs.new w _ _).alloc _)) hm1 (by simp)
    · exact hc1
  have KO := Lib.hid hO
  have z1 : w.heap.size + 2 ≤ w1.heap.size := by have := hO.k3.lt; omega
  clear hO hc1 hm1
  have HR1 := Lib.hid (HR.out.mod KO.out.m (fun _ _ h => h))
  go_wp2_with (at_builtin; go_must (refine wpList_appR rfl (.const (.slice none 0 0)) (.tmp 13) rfl rfl (R := fun k => w.heap.size + 2 ≤ k) (N := 0) (bs := []) ⟨OwnB.nil _, (fun g hg => by cases hg), Nat.le_refl _⟩ rfl HR1.out (by omega) ?_))
  intro ao2 cap2 w2 hq2 hm2
  have KO2 := Lib.hid (KO.out.mod hm2 (fun k hk => hk))
  have z2 := hm2.size
  have HQ2 := Lib.hid (show FulO w w2 (.slice ao2 bs.length cap2) bs from ⟨hq2.1, fun g hg => by have := hq2.2.1 g hg; unfold New at this; omega, Nat.le_refl _⟩)
  clear hq2 hm2 KO HR1
  go_wp2_with (at_builtin; go_must (refine wpList_appR1 rfl (.tmp 14) (.tmp 15) rfl rfl HQ2.out rfl (by omega) (by omega) (by omega) ?_))
  intro ao3 cap3 w3 hq3 hm3
  have KO3 := Lib.hid (KO2.out.mod hm3 (fun k hk => hk))
  have z3 := hm3.size
  have HQ3 := Lib.hid (show FulO w w3 (.slice ao3 (bs.length + 1) cap3) (padded bs 0) from ⟨by have := hq3.1; simpa [padded] using this, fun g hg => by have := hq3.2.1 g hg; unfold New at this; omega, by rw [padded_len]; omega⟩)
  clear hq3 hm3 KO2 HQ2
  have hz : padZ bs.length ≤ 63 := by unfold padZ; omega
  go_wp2
  go_loopw [4] (fun t4 wr => ∃ (j : Nat) (ao : Option Addr) (cap : Nat), t4 = .slice ao (bs.length + 1 + j) cap ∧ j ≤ padZ bs.length ∧ FulO w wr (.slice ao (bs.length + 1 + j) cap) (padded bs j) ∧ SumO w H256 wr) (fun t4 _ => bs.length + 1 + padZ bs.length - lenOf t4)
  case atStart => exact ⟨0, ao3, cap3, rfl, by omega, HQ3.out, KO3.out⟩
  case round =>
    obtain ⟨j, ao4, cap4, rfl, hj, hF, hO⟩ := hrel
    have hiff := pad_iff hj
    have KF := Lib.hid hF
    have KO := Lib.hid hO
    have zr := hO.k3.lt
    clear hF hO HQ3 KO3
    obtain ⟨n, hn⟩ : ∃ n, n = bs.length + 1 + j := ⟨_, rfl⟩
    rw [← hn] at KF hiff
    rw [← hn]
    have HN := Lib.hid hn
    have hnb : n ≤ 950000 := by omega
    clear hn
    by_cases hlt : j < padZ bs.length
    · have h56 : ¬ ((n : Int) % 64 = 56) := by omega
      clear hiff
      go_wp2_with (at_builtin; go_must (refine wpList_appR1 rfl (.tmp 21) (.tmp 22) rfl rfl KF.out rfl (by omega) (by omega) (by rw [padded_len]; omega) ?_))
      intro ao5 cap5 w5 hq5 hm5
      have KO5 := Lib.hid (KO.out.mod hm5 (fun k hk => hk))
      have z5 := hm5.size
      rw [padded_succ] at hq5
      have hl5 : (padded bs j).length = n := by rw [padded_len, HN.out]
      rw [hl5] at hq5 ⊢
      have hl6 := padded_len bs (j + 1)
      have HQ5 := Lib.hid (show FulO w w5 (.slice ao5 (n + 1) cap5) (padded bs (j + 1)) from ⟨hq5.1, fun g hg => by have := hq5.2.1 g hg; unfold New at this; omega, Nat.le_refl _⟩)
      clear hq5 hm5 hl5 hl6
      go_wp2
      go_roundw
      case rel => exact ⟨j + 1, ao5, cap5, by rw [HN.out, ← Nat.add_assoc], by omega, by have := HQ5.out; rw [HN.out, Nat.add_assoc] at this; exact this, KO5.out⟩
      case measure => have := HN.out; simp [lenOf]; omega
    · obtain rfl : j = padZ bs.length := by omega
      have h56 : (n : Int) % 64 = 56 := by omega
      have hl4 : (padded bs (padZ bs.length)).length = n := by rw [padded_len, HN.out]
      clear hiff
      go_wp2
      obtain ⟨x, hx⟩ : ∃ x : Int, x = (bs.length : Int) * 8 := ⟨_, rfl⟩
      rw [← hx]
      have HX := Lib.hid hx
      have HL4 := Lib.hid hl4
      clear hx hl4 h56
      have hfz : FulO w wr (.slice ao4 n cap4) (fullTo bs 0) := by have := KF.out; rw [show fullTo bs 0 = padded bs (padZ bs.length) by simp [fullTo]]; exact this
      have HF0 := Lib.hid hfz
      clear hfz KF
      go_loopw [4, 28] (fun t4 t28 wr => ∃ (i : Nat) (ao : Option Addr) (cap : Nat), t28 = .int .i64 i ∧ i ≤ 8 ∧ t4 = .slice ao (n + i) cap ∧ FulO w wr (.slice ao (n + i) cap) (fullTo bs i) ∧ SumO w H256 wr) (fun _ t28 _ => 8 - (intOf t28).toNat)
      case atStart => exact ⟨0, ao4, cap4, rfl, by omega, rfl, HF0.out, KO.out⟩
      case round =>
        obtain ⟨wi, rfl⟩ : ∃ x, x = wr := ⟨_, rfl⟩
        obtain ⟨i, ao6, cap6, rfl, hi, rfl, hF, hO⟩ := hrel
        clear KO HF0
        have KF := Lib.hid hF
        have KO := Lib.hid hO
        have zr2 := hO.k3.lt
        clear hF hO
        have hfl := fullTo_len bs i
        have hfl2 : (fullTo bs i).length = n + i := by rw [hfl, HN.out]
        have HFL := Lib.hid hfl2
        clear hfl hfl2
        by_cases hlt2 : i < 8
        · have hlb := lenB_byte bs.length i
          have hlv : lenB bs.length i = x / 2 ^ (56 - 8 * i) % 256 := by rw [HX.out]; rfl
          obtain ⟨y, hy⟩ : ∃ y, y = lenB bs.length i := ⟨_, rfl⟩
          rw [← hy] at hlb hlv
          have HY := Lib.hid hy
          have HV := Lib.hid hlv
          clear hy hlv
          have HI := Lib.hid (show i < 8 from hlt2)
          match i, hlt2 with
          | 0, _ =>
            have hv : y = x / 72057594037927936 % 256 := by rw [HV.out]; simp
            have HVV := Lib.hid hv
            rw [hv] at hlb
            clear hv
            go_wp2_with (at_builtin; go_must (refine wpList_appR1 rfl (.tmp 31) (.tmp 38) rfl rfl KF.out rfl hlb.1 hlb.2 (by rw [HFL.out]; omega) ?_))
            intro ao7 cap7 w7 hq7 hm7
            have KO7 := Lib.hid (KO.out.mod hm7 (fun k hk => hk))
            have z7 := hm7.size
            rw [← HVV.out, HY.out, fullTo_succ, HFL.out] at hq7
            rw [HFL.out]
            have hl7 := fullTo_len bs (0 + 1)
            have hl8 := HN.out
            have HQ7 := Lib.hid (show FulO w w7 (.slice ao7 (n + 0 + 1) cap7) (fullTo bs (0 + 1)) from ⟨hq7.1, fun g hg => by have := hq7.2.1 g hg; unfold New at this; omega, Nat.le_refl _⟩)
            clear hq7 hm7 hl7 hl8 hlb
            go_wp2
            go_roundw
            case rel => exact ⟨0 + 1, ao7, cap7, by go_num, by omega, rfl, HQ7.out, KO7.out⟩
            case measure => first | (simp [intOf]; done) | (simp [intOf]; omega)
          | 1, _ =>
            have hv : y = x / 281474976710656 % 256 := by rw [HV.out]; simp
            have HVV := Lib.hid hv
            rw [hv] at hlb
            clear hv
            go_wp2_with (at_builtin; go_must (refine wpList_appR1 rfl (.tmp 31) (.tmp 38) rfl rfl KF.out rfl hlb.1 hlb.2 (by rw [HFL.out]; omega) ?_))
            intro ao7 cap7 w7 hq7 hm7
            have KO7 := Lib.hid (KO.out.mod hm7 (fun k hk => hk))
            have z7 := hm7.size
            rw [← HVV.out, HY.out, fullTo_succ, HFL.out] at hq7
            rw [HFL.out]
            have hl7 := fullTo_len bs (1 + 1)
            have hl8 := HN.out
            have HQ7 := Lib.hid (show FulO w w7 (.slice ao7 (n + 1 + 1) cap7) (fullTo bs (1 + 1)) from ⟨hq7.1, fun g hg => by have := hq7.2.1 g hg; unfold New at this; omega, Nat.le_refl _⟩)
            clear hq7 hm7 hl7 hl8 hlb
            go_wp2
            go_roundw
            case rel => exact ⟨1 + 1, ao7, cap7, by go_num, by omega, rfl, HQ7.out, KO7.out⟩
            case measure => first | (simp [intOf]; done) | (simp [intOf]; omega)
          | 2, _ =>
            have hv : y = x / 1099511627776 % 256 := by rw [HV.out]; simp
            have HVV := Lib.hid hv
            rw [hv] at hlb
            clear hv
            go_wp2_with (at_builtin; go_must (refine wpList_appR1 rfl (.tmp 31) (.tmp 38) rfl rfl KF.out rfl hlb.1 hlb.2 (by rw [HFL.out]; omega) ?_))
            intro ao7 cap7 w7 hq7 hm7
            have KO7 := Lib.hid (KO.out.mod hm7 (fun k hk => hk))
            have z7 := hm7.size
            rw [← HVV.out, HY.out, fullTo_succ, HFL.out] at hq7
            rw [HFL.out]
            have hl7 := fullTo_len bs (2 + 1)
            have hl8 := HN.out
            have HQ7 := Lib.hid (show FulO w w7 (.slice ao7 (n + 2 + 1) cap7) (fullTo bs (2 + 1)) from ⟨hq7.1, fun g hg => by have := hq7.2.1 g hg; unfold New at this; omega, Nat.le_refl _⟩)
            clear hq7 hm7 hl7 hl8 hlb
            go_wp2
            go_roundw
            case rel => exact ⟨2 + 1, ao7, cap7, by go_num, by omega, rfl, HQ7.out, KO7.out⟩
            case measure => first | (simp [intOf]; done) | (simp [intOf]; omega)
          | 3, _ =>
            have hv : y = x / 4294967296 % 256 := by rw [HV.out]; simp
            have HVV := Lib.hid hv
            rw [hv] at hlb
            clear hv
            go_wp2_with (at_builtin; go_must (refine wpList_appR1 rfl (.tmp 31) (.tmp 38) rfl rfl KF.out rfl hlb.1 hlb.2 (by rw [HFL.out]; omega) ?_))
            intro ao7 cap7 w7 hq7 hm7
            have KO7 := Lib.hid (KO.out.mod hm7 (fun k hk => hk))
            have z7 := hm7.size
            rw [← HVV.out, HY.out, fullTo_succ, HFL.out] at hq7
            rw [HFL.out]
            have hl7 := fullTo_len bs (3 + 1)
            have hl8 := HN.out
            have HQ7 := Lib.hid (show FulO w w7 (.slice ao7 (n + 3 + 1) cap7) (fullTo bs (3 + 1)) from ⟨hq7.1, fun g hg => by have := hq7.2.1 g hg; unfold New at this; omega, Nat.le_refl _⟩)
            clear hq7 hm7 hl7 hl8 hlb
            go_wp2
            go_roundw
            case rel => exact ⟨3 + 1, ao7, cap7, by go_num, by omega, rfl, HQ7.out, KO7.out⟩
            case measure => first | (simp [intOf]; done) | (simp [intOf]; omega)
          | 4, _ =>
            have hv : y = x / 16777216 % 256 := by rw [HV.out]; simp
            have HVV := Lib.hid hv
            rw [hv] at hlb
            clear hv
            go_wp2_with (at_builtin; go_must (refine wpList_appR1 rfl (.tmp 31) (.tmp 38) rfl rfl KF.out rfl hlb.1 hlb.2 (by rw [HFL.out]; omega) ?_))
            intro ao7 cap7 w7 hq7 hm7
            have KO7 := Lib.hid (KO.out.mod hm7 (fun k hk => hk))
            have z7 := hm7.size
            rw [← HVV.out, HY.out, fullTo_succ, HFL.out] at hq7
            rw [HFL.out]
            have hl7 := fullTo_len bs (4 + 1)
            have hl8 := HN.out
            have HQ7 := Lib.hid (show FulO w w7 (.slice ao7 (n + 4 + 1) cap7) (fullTo bs (4 + 1)) from ⟨hq7.1, fun g hg => by have := hq7.2.1 g hg; unfold New at this; omega, Nat.le_refl _⟩)
            clear hq7 hm7 hl7 hl8 hlb
            go_wp2
            go_roundw
            case rel => exact ⟨4 + 1, ao7, cap7, by go_num, by omega, rfl, HQ7.out, KO7.out⟩
            case measure => first | (simp [intOf]; done) | (simp [intOf]; omega)
          | 5, _ =>
            have hv : y = x / 65536 % 256 := by rw [HV.out]; simp
            have HVV := Lib.hid hv
            rw [hv] at hlb
            clear hv
            go_wp2_with (at_builtin; go_must (refine wpList_appR1 rfl (.tmp 31) (.tmp 38) rfl rfl KF.out rfl hlb.1 hlb.2 (by rw [HFL.out]; omega) ?_))
            intro ao7 cap7 w7 hq7 hm7
            have KO7 := Lib.hid (KO.out.mod hm7 (fun k hk => hk))
            have z7 := hm7.size
            rw [← HVV.out, HY.out, fullTo_succ, HFL.out] at hq7
            rw [HFL.out]
            have hl7 := fullTo_len bs (5 + 1)
            have hl8 := HN.out
            have HQ7 := Lib.hid (show FulO w w7 (.slice ao7 (n + 5 + 1) cap7) (fullTo bs (5 + 1)) from ⟨hq7.1, fun g hg => by have := hq7.2.1 g hg; unfold New at this; omega, Nat.le_refl _⟩)
            clear hq7 hm7 hl7 hl8 hlb
            go_wp2
            go_roundw
            case rel => exact ⟨5 + 1, ao7, cap7, by go_num, by omega, rfl, HQ7.out, KO7.out⟩
            case measure => first | (simp [intOf]; done) | (simp [intOf]; omega)
          | 6, _ =>
            have hv : y = x / 256 % 256 := by rw [HV.out]; simp
            have HVV := Lib.hid hv
            rw [hv] at hlb
            clear hv
            go_wp2_with (at_builtin; go_must (refine wpList_appR1 rfl (.tmp 31) (.tmp 38) rfl rfl KF.out rfl hlb.1 hlb.2 (by rw [HFL.out]; omega) ?_))
            intro ao7 cap7 w7 hq7 hm7
            have KO7 := Lib.hid (KO.out.mod hm7 (fun k hk => hk))
            have z7 := hm7.size
            rw [← HVV.out, HY.out, fullTo_succ, HFL.out] at hq7
            rw [HFL.out]
            have hl7 := fullTo_len bs (6 + 1)
            have hl8 := HN.out
            have HQ7 := Lib.hid (show FulO w w7 (.slice ao7 (n + 6 + 1) cap7) (fullTo bs (6 + 1)) from ⟨hq7.1, fun g hg => by have := hq7.2.1 g hg; unfold New at this; omega, Nat.le_refl _⟩)
            clear hq7 hm7 hl7 hl8 hlb
            go_wp2
            go_roundw
            case rel => exact ⟨6 + 1, ao7, cap7, by go_num, by omega, rfl, HQ7.out, KO7.out⟩
            case measure => first | (simp [intOf]; done) | (simp [intOf]; omega)
          | 7, _ =>
            have hv : y = x % 256 := by rw [HV.out]; simp
            have HVV := Lib.hid hv
            rw [hv] at hlb
            clear hv
            go_wp2_with (at_builtin; go_must (refine wpList_appR1 rfl (.tmp 31) (.tmp 38) rfl rfl KF.out rfl hlb.1 hlb.2 (by rw [HFL.out]; omega) ?_))
            intro ao7 cap7 w7 hq7 hm7
            have KO7 := Lib.hid (KO.out.mod hm7 (fun k hk => hk))
            have z7 := hm7.size
            rw [← HVV.out, HY.out, fullTo_succ, HFL.out] at hq7
            rw [HFL.out]
            have hl7 := fullTo_len bs (7 + 1)
            have hl8 := HN.out
            have HQ7 := Lib.hid (show FulO w w7 (.slice ao7 (n + 7 + 1) cap7) (fullTo bs (7 + 1)) from ⟨hq7.1, fun g hg => by have := hq7.2.1 g hg; unfold New at this; omega, Nat.le_refl _⟩)
            clear hq7 hm7 hl7 hl8 hlb
            go_wp2
            go_roundw
            case rel => exact ⟨7 + 1, ao7, cap7, by go_num, by omega, rfl, HQ7.out, KO7.out⟩
            case measure => first | (simp [intOf]; done) | (simp [intOf]; omega)
        · obtain rfl : i = 8 := by omega
          obtain ⟨fb, hfb⟩ : ∃ fb, fb = fullB bs := ⟨_, rfl⟩
          have hL : fb.length = n + 8 := by rw [hfb]; exact HFL.out
          have hdiv : fb.length % 64 = 0 := by rw [hfb]; exact full_div bs
          have hFF : FulO w wi (.slice ao6 (n + 8) cap6) fb := by rw [hfb]; exact KF.out
          have HFB := Lib.hid hfb
          have HFF := Lib.hid hFF
          have HDIV := Lib.hid hdiv
          have HL := Lib.hid hL
          clear hfb hFF hL hdiv KF HFL
          rw [show ((8 : Nat) : Int) = 8 from rfl]
          go_wp2_with fail
          refine (rounds_any _).mono ?_
          rintro e w8 ⟨rfl, hm8⟩
          have z8 := hm8.size
          have KO8 := Lib.hid (KO.out.mod hm8 (fun k h => h.elim))
          have HF8 := HFF.out.rd.mod hm8 (fun k _ h => h.elim)
          have HF9 := Lib.hid (show RdR (fun k => w.heap.size + 2 ≤ k ∧ k < w8.heap.size) fb.length w8 (.slice ao6 (n + 8) cap6) fb from ⟨HF8.1, fun h0 g hg => ⟨HF8.2.1 h0 g hg, HF8.1.block_lt h0 g hg⟩, Nat.le_refl _⟩)
          have zr8 := KO8.out.k3.lt
          clear hm8 HF8 KO HFF
          have HKL := Lib.hid (show 0 + (K256.map wv).length ≤ 64 by rw [List.length_map, K256_len]; exact Nat.le_refl _)
          have HKS := Lib.hid (show (Try.prog.info? 108).map (·.size) = some (K256.map wv).length by rw [List.length_map, K256_len]; exact size_a64)
          go_wp2_with ((with_reducible show wpList _ _ _ (Oper.mk none (Op.store 108 (.tmp 7) (.tmp 41)) _ _ _ _ :: _) _ _); go_must (refine wpList_storeA rfl 108 (.tmp 7) (.tmp 41) rfl (Cs.new _ _ _) (off := 0) (vs := K256.map wv) HKS.out (wv_one _) HKL.out rfl rfl ?_))
          intro w9 hc9 hm9
          rw [lay_whole _ _ (by rw [List.length_map, K256_len]; rfl)] at hc9
          have hm9' : Mod (fun _ => False) w8 w9 := ((Mod.refl _ _).alloc _).trans hm9 (by intro k h1 h2; (try dsimp only at h2); omega)
          have z9 := hm9'.size
          have zg := Cs.lt hc9
          have KO9 := Lib.hid (KO8.out.mod hm9' (fun k h => h.elim))
          have KK := Lib.hid (show Ws 108 w9 w8.heap.size K256 from hc9)
          have HF10 := Lib.hid (HF9.out.mod hm9' (fun _ _ h => h))
          clear hc9 hm9 hm9' KO8 HF9 HKL
          obtain ⟨g7, hg7⟩ : ∃ g, g = w8.heap.size := ⟨_, rfl⟩
          rw [← hg7] at KK HF10 zg
          rw [← hg7]
          have hg72 : w.heap.size + 2 ≤ g7 := by omega
          clear hg7 z8 z9 zr8
          have hn8 : n + 8 ≤ 960000 := by omega
          go_wp2
          go_loopw [4] (fun t4 wr => ∃ (t m : Nat) (ao : Option Addr) (cap : Nat), t4 = .slice ao m cap ∧ m + 64 * t = n + 8 ∧ RdR (fun k => w.heap.size + 2 ≤ k ∧ k < g7) fb.length wr (.slice ao m cap) (fb.drop (64 * t)) ∧ SumO w (blocksTo fb t) wr ∧ Ws 108 wr g7 K256) (fun t4 _ => lenOf t4)
          case atStart => exact ⟨0, n + 8, ao6, cap6, rfl, by omega, HF10.out, KO9.out, KK.out⟩
          case round =>
            obtain ⟨wj, rfl⟩ : ∃ x, x = wr := ⟨_, rfl⟩
            obtain ⟨t, m, ao10, cap10, rfl, hm, hF, hO, hK⟩ := hrel
            have hfl : fb.length = n + 8 := HL.out
            have hdl : (fb.drop (64 * t)).length = m := by rw [List.length_drop]; omega
            have hcl := hF.1.len.2
            have hdv : m % 64 = 0 := by have := HDIV.out; omega
            have KF := Lib.hid hF
            have KO := Lib.hid hO
            have KK2 := Lib.hid hK
            have HDL := Lib.hid hdl
            have zj := hO.k3.lt
            have zk := hK.lt
            clear hF hO hK hfl hdl KO9 KK HF10
            by_cases hlt : 0 < m
            · have hm64 : 64 ≤ m := by omega
              have hlti : (0 : Int) < (m : Int) := by omega
              obtain ⟨H, hH⟩ : ∃ H, H = blocksTo fb t := ⟨_, rfl⟩
              have hHl : H.length = 8 := by rw [hH]; exact blocks_len fb t
              have hsucc := blocks_succ fb t
              rw [← hH] at KO hsucc
              have HS := Lib.hid hsucc
              have HHL := Lib.hid hHl
              have HSZ := Lib.hid (show (Try.prog.info? 106).map (·.size) = some (H.map wv).length by rw [List.length_map, hHl]; exact size_a8)
              have HKS2 := Lib.hid (show (Try.prog.info? 108).map (·.size) = some (K256.map wv).length from HKS.out)
              have HC8 := Lib.hid (show ∀ k u, (H.map wv)[k]? = some u → wj.cell? ⟨w.heap.size + 1, 0 + k, none⟩ = some u by intro k u hu; rw [Nat.zero_add, Cs.cell KO.out.k3]; simpa using hu)
              have HC64 := Lib.hid (show ∀ k u, (K256.map wv)[k]? = some u → wj.cell? ⟨g7, 0 + k, none⟩ = some u by intro k u hu; rw [Nat.zero_add, Cs.cell KK2.out]; simpa using hu)
              have hmix := mix_any H K256 hHl K256_len (.slice ao10 m cap10) (fb.drop (64 * t)) wj KF.out.1 (fun g hg => KF.out.1.block_lt (by have := HDL.out; omega) g hg) (by have := HDL.out; omega)
              rw [← hsucc] at hmix
              have HMIX := Lib.hid hmix
              clear hH hHl hsucc hmix
              go_upto_region 14 with (fail)
              go_step
              refine wpList_loadA rfl 106 (.tmp 3) rfl Try.underlying106 rfl (g := w.heap.size + 1) (off := 0) (cs := H.map wv) HSZ.out rfl HC8.out ?_
              simp only [Act.put, List.setIfInBounds_toArray, List.set_cons_zero, List.set_cons_succ]
              refine wpList_loadA rfl 108 (.tmp 7) rfl Try.underlying108 rfl (g := g7) (off := 0) (cs := K256.map wv) HKS2.out rfl HC64.out ?_
              simp only [Act.put, List.setIfInBounds_toArray, List.set_cons_zero, List.set_cons_succ]
              go_wp2_with fail
              refine (HMIX.out).mono ?_
              rintro e w10 ⟨rfl, hm10⟩
              obtain ⟨H2, hH2⟩ : ∃ H2, H2 = blocksTo fb (t + 1) := ⟨_, rfl⟩
              have hH2l : H2.length = 8 := by rw [hH2]; exact blocks_len fb (t + 1)
              rw [← hH2]
              have HH2 := Lib.hid hH2
              have HSZ2 := Lib.hid (show (Try.prog.info? 106).map (·.size) = some (H2.map wv).length by rw [List.length_map, hH2l]; exact size_a8)
              have HFT := Lib.hid (show 0 + (H2.map wv).length ≤ (H.map wv).toArray.size by simp [hH2l, HHL.out])
              have HLY := Lib.hid (lay_whole (H.map wv).toArray (H2.map wv) (by simp [hH2l, HHL.out]))
              have z10 := hm10.size
              have KO10 := Lib.hid (KO.out.mod hm10 (fun k h => h.elim))
              have KK10 := Lib.hid (KK2.out.mod hm10 (fun h => h))
              have KF10 := Lib.hid (KF.out.mod hm10 (fun _ _ h => h))
              clear hH2 hH2l hm10 KO KK2 KF HMIX HC8 HC64
              go_wp2_with ((with_reducible show wpList _ _ _ (Oper.mk none (Op.store 106 (.tmp 3) (.tmp 50)) _ _ _ _ :: _) _ _); go_must (refine wpList_storeA rfl 106 (.tmp 3) (.tmp 50) rfl KO10.out.k3 (off := 0) (vs := H2.map wv) HSZ2.out (wv_one _) HFT.out rfl rfl ?_))
              intro w11 hc11 hm11
              rw [HLY.out] at hc11
              have z11 := hm11.size
              have KO11 := Lib.hid (KO10.out.put hm11 hc11)
              have KK11 := Lib.hid (KK10.out.mod hm11 (by omega))
              have KF11 := KF10.out.mod hm11 (by intro k h1 h2; (try dsimp only at h1 h2); omega)
              have hdd : (fb.drop (64 * t)).drop 64 = fb.drop (64 * (t + 1)) := by rw [List.drop_drop]; congr 1
              clear hc11 hm11 KO10 KK10 KF10
              rw [HH2.out] at KO11
              by_cases hc64 : cap10 = 64
              · have hta := RdB.tail_at KF11.1 64 (by rw [HDL.out]; omega) hc64
                rw [hdd, HDL.out] at hta
                have HTA := Lib.hid (show RdR (fun k => w.heap.size + 2 ≤ k ∧ k < g7) fb.length w11 (.slice ao10 (m - 64) 0) (fb.drop (64 * (t + 1))) from ⟨hta, fun h0 g hg => KF11.2.1 (by rw [HDL.out]; omega) g (by cases ao10 <;> simp_all [Value.ownBlock]), by simp⟩)
                clear hta KF11 hdd
                go_wp2
                go_roundw
                case rel => exact ⟨t + 1, m - 64, ao10, 0, rfl, by omega, HTA.out, KO11.out, KK11.out⟩
                case measure => simp [lenOf]; omega
              · have hta := RdB.tail_in KF11.1 64 (by rw [HDL.out]; omega) hc64
                rw [hdd, HDL.out] at hta
                have HTA := Lib.hid (show RdR (fun k => w.heap.size + 2 ≤ k ∧ k < g7) fb.length w11 (.slice (ao10.map fun x => x.add 64) (m - 64) (cap10 - 64)) (fb.drop (64 * (t + 1))) from ⟨hta, fun h0 g hg => KF11.2.1 (by rw [HDL.out]; omega) g (by rw [← ownBlock_map ao10 64 (m - 64) (cap10 - 64) m cap10]; exact hg), by simp⟩)
                clear hta KF11 hdd
                go_wp2
                go_roundw
                case rel => exact ⟨t + 1, m - 64, ao10.map fun x => x.add 64, cap10 - 64, rfl, by omega, HTA.out, KO11.out, KK11.out⟩
                case measure => simp [lenOf]; omega
            · obtain rfl : m = 0 := by omega
              have hn0 : n + 8 = 64 * t := by omega
              have htl : t = fb.length / 64 := by have := HL.out; omega
              have hres : shaF bs = (List.range 32).map (outB (blocksTo fb t)) := by rw [htl, HFB.out]; rfl
              obtain ⟨H, hH⟩ : ∃ H, H = blocksTo fb t := ⟨_, rfl⟩
              have hHl : H.length = 8 := by rw [hH]; exact blocks_len fb t
              rw [← hH] at KO hres
              have HRES := Lib.hid (show outTo H 32 = shaF bs by rw [hres]; simp [outTo])
              have HHL := Lib.hid hHl
              have HSZ := Lib.hid (show (Try.prog.info? 106).map (·.size) = some (H.map wv).length by rw [List.length_map, hHl]; exact size_a8)
              have z12 := KO.out.k3.lt
              clear hH hHl hres htl hn0 hm KF KK2 HDL HL HFB HDIV HX hdv hlt
              go_upto_region 16 with (fail)
              obtain ⟨w12, hw12⟩ : ∃ x, x = wj.alloc (.cells ((List.replicate 32 0).map bv).toArray 26) := ⟨_, rfl⟩
              change Code.wp _ _ _ _ (wj.alloc (.cells ((List.replicate 32 0).map bv).toArray 26))
              rw [← hw12]
              have hm12 : Mod (fun _ => False) wj w12 := by rw [hw12]; exact (Mod.refl _ _).alloc _
              have KO12 := Lib.hid (KO.out.mod hm12 (fun k h => h.elim))
              have KT := Lib.hid (show Cs w12 wj.heap.size ((outTo H 0).map bv).toArray 26 by rw [hw12]; exact Cs.new _ _ _)
              have HC8 := Lib.hid (show ∀ k u, (H.map wv)[k]? = some u → w12.cell? ⟨w.heap.size + 1, 0 + k, none⟩ = some u by intro k u hu; rw [Nat.zero_add, Cs.cell KO12.out.k3]; simpa using hu)
              obtain ⟨g8, hg8⟩ : ∃ g, g = wj.heap.size := ⟨_, rfl⟩
              rw [← hg8] at KT z12
              rw [← hg8]
              clear hw12 hm12 KO hg8
              go_step
              refine wpList_loadA rfl 106 (.tmp 3) rfl Try.underlying106 rfl (g := w.heap.size + 1) (off := 0) (cs := H.map wv) HSZ.out rfl HC8.out ?_
              simp only [Act.put, List.setIfInBounds_toArray, List.set_cons_zero, List.set_cons_succ]
              clear HC8
              go_wp2
              go_loopw [52] (fun t52 wr => ∃ (i : Nat), t52 = .int .i64 i ∧ i ≤ 8 ∧ Cs wr g8 ((outTo H (4 * i)).map bv).toArray 26 ∧ SumO w H wr) (fun t52 _ => 8 - (intOf t52).toNat)
              case atStart => exact ⟨0, rfl, by omega, KT.out, KO12.out⟩
              case round =>
                obtain ⟨wk, rfl⟩ : ∃ x, x = wr := ⟨_, rfl⟩
                obtain ⟨i, rfl, hi, hT, hO⟩ := hrel
                clear KT KO12
                have KT := Lib.hid hT
                have KO := Lib.hid hO
                clear hT hO
                by_cases hlt : i < 8
                · obtain ⟨x, hx⟩ : ∃ x, x = H.getD i 0 := ⟨_, rfl⟩
                  have HX := Lib.hid hx
                  clear hx
                  have hsz1 : (Try.prog.info? 105).map (·.size) = some 1 := by kernel_rfl
                  have HS1 := Lib.hid hsz1
                  clear hsz1
                  go_wp2_with ((with_reducible show wpList _ _ _ (Oper.mk (some 55) _ _ _ _ _ :: _) _ _); go_must (refine wpList_idxA rfl 106 (.tmp 51) (.tmp 52) rfl (i := i) Try.underlying106 Try.underlying105 HS1.out H HHL.out hlt rfl rfl ?_); rw [← HX.out])
                  go_loopw [56] (fun t56 wr => ∃ (j : Nat), t56 = .int .i64 j ∧ j ≤ 4 ∧ Cs wr g8 ((outTo H (4 * i + j)).map bv).toArray 26 ∧ SumO w H wr) (fun t56 _ => 4 - (intOf t56).toNat)
                  case atStart => exact ⟨0, rfl, by omega, KT.out, KO.out⟩
                  case round =>
                    obtain ⟨wm, rfl⟩ : ∃ x, x = wr := ⟨_, rfl⟩
                    obtain ⟨j, rfl, hj, hT, hO⟩ := hrel
                    clear KT KO
                    have KT := Lib.hid hT
                    have KO := Lib.hid hO
                    clear hT hO
                    by_cases hlj : j < 4
                    · have hq : 4 * i + j < 32 := by omega
                      have hl32 := outTo_len H (4 * i + j) (by omega)
                      have hc : wm.cell? ⟨g8, 4 * i + j, none⟩ = some (bv ((outTo H (4 * i + j)).getD (4 * i + j) 0)) := by
                        rw [KT.out.cell]; simp [List.getD, hl32, hq]
                      have hf := KT.out.frozen (4 * i + j)
                      have hnext := Cs_setB KT.out (4 * i + j) (outB H (4 * i + j))
                      rw [outTo_succ H _ hq, outB_at H i j hlj, ← HX.out] at hnext
                      have hmm : Mod (fun k => k = g8) wm (wm.setCell ⟨g8, 4 * i + j, none⟩ (bv (x / 2 ^ (24 - 8 * j) % 256))) := Mod.setCell (Mod.refl (fun k => k = g8) wm) (p := ⟨g8, 4 * i + j, none⟩) (fun _ => rfl) _
                      have hon := KO.out.mod hmm (fun k hk => by omega)
                      have HNX := Lib.hid hnext
                      have HON := Lib.hid hon
                      generalize (outTo H (4 * i + j)).getD (4 * i + j) 0 = old at hc
                      clear hnext hmm hon hl32
                      have HJ := Lib.hid hlj
                      match j, hlj with
                      | 0, _ =>
                        have h1 := HNX.out
                        have h2 := HON.out
                        rw [show (2 : Int) ^ (24 - 8 * 0) = 16777216 from by decide] at h1 h2
                        simp only [Nat.add_zero] at hc hf
                        have H1 := Lib.hid h1
                        have H2 := Lib.hid h2
                        clear h1 h2 HNX HON
                        go_wp2
                        go_roundw
                        case rel => exact ⟨0 + 1, by go_num, by omega, H1.out, H2.out⟩
                        case measure => first | (simp [intOf]; done) | (simp [intOf]; omega)
                      | 1, _ =>
                        have h1 := HNX.out
                        have h2 := HON.out
                        rw [show (2 : Int) ^ (24 - 8 * 1) = 65536 from by decide] at h1 h2
                        skip
                        have H1 := Lib.hid h1
                        have H2 := Lib.hid h2
                        clear h1 h2 HNX HON
                        go_wp2
                        go_roundw
                        case rel => exact ⟨1 + 1, by go_num, by omega, H1.out, H2.out⟩
                        case measure => first | (simp [intOf]; done) | (simp [intOf]; omega)
                      | 2, _ =>
                        have h1 := HNX.out
                        have h2 := HON.out
                        rw [show (2 : Int) ^ (24 - 8 * 2) = 256 from by decide] at h1 h2
                        skip
                        have H1 := Lib.hid h1
                        have H2 := Lib.hid h2
                        clear h1 h2 HNX HON
                        go_wp2
                        go_roundw
                        case rel => exact ⟨2 + 1, by go_num, by omega, H1.out, H2.out⟩
                        case measure => first | (simp [intOf]; done) | (simp [intOf]; omega)
                      | 3, _ =>
                        have h1 := HNX.out
                        have h2 := HON.out
                        rw [show (2 : Int) ^ (24 - 8 * 3) = 1 from by decide, Int.ediv_one] at h1 h2
                        skip
                        have H1 := Lib.hid h1
                        have H2 := Lib.hid h2
                        clear h1 h2 HNX HON
                        go_wp2
                        go_roundw
                        case rel => exact ⟨3 + 1, by go_num, by omega, H1.out, H2.out⟩
                        case measure => first | (simp [intOf]; done) | (simp [intOf]; omega)
                    · obtain rfl : j = 4 := by omega
                      go_wp2
                      go_roundw
                      case rel => exact ⟨i + 1, by go_num, by omega, by have := KT.out; rw [show 4 * i + 4 = 4 * (i + 1) by omega] at this; exact this, KO.out⟩
                      case measure => first | (simp [intOf]; done) | (simp [intOf]; omega)
                · obtain rfl : i = 8 := by omega
                  have hF := HRES.out
                  obtain ⟨F, hFF⟩ : ∃ F, F = shaF bs := ⟨_, rfl⟩
                  rw [← hFF] at hF
                  have hFl : F.length = 32 := by rw [hFF]; exact shaF_len bs
                  have hT := KT.out
                  rw [show 4 * 8 = 32 from rfl, hF] at hT
                  have HT := Lib.hid hT
                  have HFF2 := Lib.hid hFF
                  have HSF := Lib.hid (show (Try.prog.info? 26).map (·.size) = some (F.map bv).length by rw [List.length_map, hFl]; exact size_hash)
                  have HCF := Lib.hid (show ∀ k u, (F.map bv)[k]? = some u → wk.cell? ⟨g8, 0 + k, none⟩ = some u by intro k u hu; rw [Nat.zero_add, HT.out.cell]; simpa using hu)
                  have HFF := Lib.hid (show 0 + (F.map bv).length ≤ ((List.replicate 32 0).map bv).toArray.size by simp [hFl])
                  have HLY := Lib.hid (lay_whole ((List.replicate 32 0).map bv).toArray (F.map bv) (by simp [hFl]))
                  clear hF hFF hFl hT KT
                  rw [show ((8 : Nat) : Int) = 8 from rfl]
                  go_upto_region 25 with (fail)
                  go_step
                  refine wpList_loadA rfl 26 (.tmp 8) rfl Try.underlying26 rfl (g := g8) (off := 0) (cs := F.map bv) HSF.out rfl HCF.out ?_
                  simp only [Act.put, List.setIfInBounds_toArray, List.set_cons_zero, List.set_cons_succ]
                  refine wpList_storeA rfl 26 (.tmp 2) (.tmp 72) rfl KO.out.k2 (vs := F.map bv) HSF.out (ints_oneCell .u8 _) HFF.out rfl rfl ?_
                  intro w20 hc20 hm20
                  rw [HLY.out] at hc20
                  go_wp2
                  refine bodyPost_ret (results_cellA rfl _ _ w.heap.size (F.map bv) rfl (fun k u hu => by rw [hc20.cell]; simpa using hu) Try.underlying26 rfl HSF.out) rfl ⟨by rw [HFF2.out]; rfl, KO.out.m.trans (hm20.mono (S' := fun k => k = w.heap.size) (fun k _ hk => hk)) (by intro k h1 h2; omega)⟩
end Go.Proofs.Ytfgepphankfbfaa

/- A writer that a region fills, one call behind the other: the state for wp_region_G. -/
set_option maxRecDepth 100000
set_option linter.unusedVariables false
namespace Go.Proofs.Ytfgepphankfbfaa
open Go Go.RowKit Go.Gv

end Go.Proofs.Ytfgepphankfbfaa

/- commit.Of. -/
set_option maxRecDepth 100000
set_option linter.unusedVariables false
namespace Go.Proofs.Ytfgepphankfbfaa
open Go Go.RowKit Go.Gv

def I64 (n : Int) : Prop := -9223372036854775808 ≤ n ∧ n ≤ 9223372036854775807
end Go.Proofs.Ytfgepphankfbfaa

/- commit.Text. -/
set_option maxRecDepth 100000
set_option linter.unusedVariables false
namespace Go.Proofs.Ytfgepphankfbfaa
open Go Go.RowKit Go.Gv

/-- a commitment -/
structure Cm where
  cl : Int
  sq : Int
  h : List Int
  ln : Int
  sb : Int
  mr : Int
def Cm.cells (c : Cm) : List Value := [.int .i64 c.cl, .int .i64 c.sq] ++ (c.h.map bv ++ [.int .i64 c.ln, .int .i64 c.sb, .int .i64 c.mr])
def Cm.val (c : Cm) : Value := .agg c.cells.toArray
/-- its numbers are numbers, its hash is one -/
def Cm.OK (c : Cm) : Prop := (I64 c.cl ∧ I64 c.sq ∧ I64 c.ln ∧ I64 c.sb ∧ I64 c.mr) ∧ c.h.length = 32 ∧ Bytes c.h
theorem Cm.len {c : Cm} (h : c.h.length = 32) : c.cells.length = 37 := by simp [Cm.cells, h]
section
variable {w : World} {g : Nat} {c : Cm} {T : TypeId}
end
end Go.Proofs.Ytfgepphankfbfaa
namespace Go.Gv
open Go Go.RowKit Go.Proofs.Ytfgepphankfbfaa
section
variable {w : World} {g : Nat} {c : Cm} {T : TypeId}
theorem Cs.c0 (h : Cs w g c.cells.toArray T) : w.cell? ⟨g, 0, none⟩ = some (.int .i64 c.cl) := by rw [h.cell]; rfl
theorem Cs.c1 (h : Cs w g c.cells.toArray T) : w.cell? ⟨g, 1, none⟩ = some (.int .i64 c.sq) := by rw [h.cell]; rfl
theorem Cs.far (h : Cs w g c.cells.toArray T) (hl : c.h.length = 32) (j : Nat) : w.cell? ⟨g, 34 + j, none⟩ = ([Value.int .i64 c.ln, .int .i64 c.sb, .int .i64 c.mr] : List Value)[j]? := by
  rw [h.cell]
  simp only [List.getElem?_toArray, Cm.cells]
  rw [List.getElem?_append_right (by simp; omega), List.getElem?_append_right (by simp [hl]; omega)]
  simp only [List.length_cons, List.length_nil, List.length_map, hl]
  congr 1
  omega
theorem Cs.hash (h : Cs w g c.cells.toArray T) : ∀ j u, (c.h.map bv)[j]? = some u → w.cell? ⟨g, 2 + j, none⟩ = some u := by
  intro j u hu
  rw [h.cell]
  simp only [List.getElem?_toArray, Cm.cells]
  rw [List.getElem?_append_right (by simp), List.getElem?_append_left (by simpa using (List.getElem?_eq_some_iff.1 hu).1)]
  simpa using hu
theorem Cs.name (h : Cs w g c.cells.toArray T) : ∀ j u, ([Value.int .i64 c.cl, .int .i64 c.sq] : List Value)[j]? = some u → w.cell? ⟨g, 0 + j, none⟩ = some u := by
  intro j u hu
  rw [Nat.zero_add, h.cell]
  simp only [List.getElem?_toArray, Cm.cells]
  rw [List.getElem?_append_left (List.getElem?_eq_some_iff.1 hu).1]
  exact hu
theorem Cs.whole {cs : List Value} (h : Cs w g cs.toArray T) : ∀ j u, cs[j]? = some u → w.cell? ⟨g, 0 + j, none⟩ = some u := by
  intro j u hu
  rw [Nat.zero_add, h.cell]
  simpa using hu
end
end Go.Gv
namespace Go.Proofs.Ytfgepphankfbfaa
open Go Go.RowKit Go.Gv
end Go.Proofs.Ytfgepphankfbfaa

/- Hashes as keys of maps; zeros. -/
set_option maxRecDepth 100000
set_option linter.unusedVariables false
namespace Go.Proofs.Ytfgepphankfbfaa
open Go Go.RowKit Go.Gv
open Go.Maps (Keyed)

/-- a hash -/
def HK (bs : List Int) : Prop := bs.length = 32 ∧ Bytes bs
end Go.Proofs.Ytfgepphankfbfaa

/- The kinds of things that messages are made of: their cells, what reads as one. -/
set_option maxRecDepth 100000
set_option linter.unusedVariables false
namespace Go.Proofs.Ytfgepphankfbfaa
open Go Go.RowKit Go.Gv

/-- a stamp, or an ack -/
structure St where
  rp : Int
  cl : Int
  sq : Int
  h : List Int
  tm : Nat
  sb : Int
  mr : Int
abbrev St.cells (x : St) : List Value := [.int .i64 x.rp, .int .i64 x.cl, .int .i64 x.sq] ++ (x.h.map bv ++ [.int .u64 (x.tm : Nat), .int .i64 x.sb, .int .i64 x.mr])
abbrev St.val (x : St) : Value := .agg x.cells.toArray
structure St.OK (x : St) : Prop where
  rp : I64 x.rp
  cl : I64 x.cl
  sq : I64 x.sq
  h : HK x.h
  tm : x.tm < U64
  sb : I64 x.sb
  mr : I64 x.mr
theorem St.len {x : St} (h : x.OK) : x.cells.length = 38 := by simp [St.cells, h.h.1]
theorem St.one (x : St) : ∀ u ∈ x.cells, u.oneCell' = true := by
  intro u hu
  simp only [St.cells, List.mem_append, List.mem_cons, List.not_mem_nil, or_false, List.mem_map] at hu
  rcases hu with (rfl | rfl | rfl) | ⟨y, -, rfl⟩ | rfl | rfl | rfl <;> rfl
def StR : Rep St := Rep.flat 38 (by decide) St.cells St.OK (fun a h => St.len h) (fun a _ => St.one a)
/-- a vote -/
structure Vt where
  kd : Int
  ep : Int
  rd : Int
  rp : Int
  h : List Int
  sb : Int
  mr : Int
abbrev Vt.cells (x : Vt) : List Value := [.int .i64 x.kd, .int .i64 x.ep, .int .i64 x.rd, .int .i64 x.rp] ++ (x.h.map bv ++ [.int .i64 x.sb, .int .i64 x.mr])
abbrev Vt.val (x : Vt) : Value := .agg x.cells.toArray
structure Vt.OK (x : Vt) : Prop where
  kd : I64 x.kd
  ep : I64 x.ep
  rd : I64 x.rd
  rp : I64 x.rp
  h : HK x.h
  sb : I64 x.sb
  mr : I64 x.mr
theorem Vt.len {x : Vt} (h : x.OK) : x.cells.length = 38 := by simp [Vt.cells, h.h.1]
theorem Vt.one (x : Vt) : ∀ u ∈ x.cells, u.oneCell' = true := by
  intro u hu
  simp only [Vt.cells, List.mem_append, List.mem_cons, List.not_mem_nil, or_false, List.mem_map] at hu
  rcases hu with (rfl | rfl | rfl | rfl) | ⟨y, -, rfl⟩ | rfl | rfl <;> rfl
/-- a denial -/
structure Dn where
  rp : Int
  ix : Int
  sb : Int
  mr : Int
abbrev Dn.cells (x : Dn) : List Value := [.int .i64 x.rp, .int .i64 x.ix, .int .i64 x.sb, .int .i64 x.mr]
abbrev Dn.val (x : Dn) : Value := .agg x.cells.toArray
structure Dn.OK (x : Dn) : Prop where
  rp : I64 x.rp
  ix : I64 x.ix
  sb : I64 x.sb
  mr : I64 x.mr
theorem Dn.len {x : Dn} (h : x.OK) : x.cells.length = 4 := by rfl
theorem Dn.one (x : Dn) : ∀ u ∈ x.cells, u.oneCell' = true := by
  intro u hu
  simp only [Dn.cells, List.mem_cons, List.not_mem_nil, or_false] at hu
  rcases hu with rfl | rfl | rfl | rfl <;> rfl
def DnR : Rep Dn := Rep.flat 4 (by decide) Dn.cells Dn.OK (fun a h => Dn.len h) (fun a _ => Dn.one a)
/-- an entry -/
structure En where
  cl : Int
  sq : Int
  h : List Int
  tm : Nat
abbrev En.cells (x : En) : List Value := [.int .i64 x.cl, .int .i64 x.sq] ++ (x.h.map bv ++ [.int .u64 (x.tm : Nat)])
abbrev En.val (x : En) : Value := .agg x.cells.toArray
structure En.OK (x : En) : Prop where
  cl : I64 x.cl
  sq : I64 x.sq
  h : HK x.h
  tm : x.tm < U64
theorem En.len {x : En} (h : x.OK) : x.cells.length = 35 := by simp [En.cells, h.h.1]
theorem En.one (x : En) : ∀ u ∈ x.cells, u.oneCell' = true := by
  intro u hu
  simp only [En.cells, List.mem_append, List.mem_cons, List.not_mem_nil, or_false, List.mem_map] at hu
  rcases hu with (rfl | rfl) | ⟨y, -, rfl⟩ | rfl <;> rfl
theorem RdR_keep {R : Nat → Prop} {N : Nat} {w w' : World} {v : Value} {bs : List Int} (h : RdR R N w v bs) (hk : ∀ p u, R p.block → w.cell? p = some u → w'.cell? p = some u) : RdR R N w' v bs :=
  ⟨⟨h.1.1, h.1.2.keepc fun h0 g hg p u hp hc => hk p u (hp ▸ h.2.1 h0 g hg) hc⟩, h.2⟩
theorem RdR_tight {R : Nat → Prop} {N : Nat} {w : World} {v : Value} {bs : List Int} (h : RdR R N w v bs) : RdR (fun k => R k ∧ k < w.heap.size) N w v bs :=
  ⟨h.1, fun h0 g hg => ⟨h.2.1 h0 g hg, h.1.2.lt (by decide) h0 hg⟩, h.2.2⟩
theorem Cm_one (c : Cm) : ∀ u ∈ c.cells, u.oneCell' = true := by
  intro u hu
  simp only [Cm.cells, List.mem_append, List.mem_cons, List.not_mem_nil, or_false, List.mem_map] at hu
  rcases hu with (rfl | rfl) | ⟨x, -, rfl⟩ | rfl | rfl | rfl <;> rfl
/-- a certificate -/
structure Ce where
  c : Cm
  l : List St
abbrev Ce.cells (x : Ce) (v_l : Value) : List Value := x.c.cells ++ [v_l]
def Ce.OK (x : Ce) : Prop := x.c.OK
def Ce.rd (R : Nat → Prop) (w : World) (cs : List Value) (x : Ce) : Prop := ∃ v_l, cs = x.cells v_l ∧ x.OK ∧ RdS StR R w v_l x.l
def CeR : Rep Ce where
  sz := 38
  pos := by decide
  rd := Ce.rd
  len h := by
    obtain ⟨v_l, rfl, hok, h0⟩ := h
    simp [Ce.cells, Cm.len hok.2.1]
  one h := by
    obtain ⟨v_l, rfl, hok, h0⟩ := h
    obtain ⟨_, _, e_l⟩ := h0.shape
    subst e_l
    intro u hu
    simp only [Ce.cells, List.mem_append, List.mem_cons, List.not_mem_nil, or_false, List.mem_map] at hu
    rcases hu with hu | rfl
    · exact Cm_one _ _ hu
    · rfl
  keep h hk := by
    obtain ⟨v_l, rfl, hok, h0⟩ := h
    exact ⟨_, rfl, hok, h0.keep hk⟩
  wid h hs := by
    obtain ⟨v_l, rfl, hok, h0⟩ := h
    exact ⟨_, rfl, hok, h0.widen hs⟩
  tight h := by
    obtain ⟨v_l, rfl, hok, h0⟩ := h
    exact ⟨_, rfl, hok, h0.tight⟩
/-- a promise -/
structure Pm where
  rp : Int
  ep : Int
  fl : Nat
  l : List Ce
  sb : Int
  mr : Int
abbrev Pm.cells (x : Pm) (v_l : Value) : List Value := [.int .i64 x.rp, .int .i64 x.ep, .int .u64 (x.fl : Nat), v_l, .int .i64 x.sb, .int .i64 x.mr]
def Pm.OK (x : Pm) : Prop := I64 x.rp ∧ I64 x.ep ∧ x.fl < U64 ∧ I64 x.sb ∧ I64 x.mr
def Pm.rd (R : Nat → Prop) (w : World) (cs : List Value) (x : Pm) : Prop := ∃ v_l, cs = x.cells v_l ∧ x.OK ∧ RdS CeR R w v_l x.l
def PmR : Rep Pm where
  sz := 6
  pos := by decide
  rd := Pm.rd
  len h := by
    obtain ⟨v_l, rfl, hok, h0⟩ := h
    rfl
  one h := by
    obtain ⟨v_l, rfl, hok, h0⟩ := h
    obtain ⟨_, _, e_l⟩ := h0.shape
    subst e_l
    intro u hu
    simp only [Pm.cells, List.mem_append, List.mem_cons, List.not_mem_nil, or_false, List.mem_map] at hu
    rcases hu with rfl | rfl | rfl | rfl | rfl | rfl <;> rfl
  keep h hk := by
    obtain ⟨v_l, rfl, hok, h0⟩ := h
    exact ⟨_, rfl, hok, h0.keep hk⟩
  wid h hs := by
    obtain ⟨v_l, rfl, hok, h0⟩ := h
    exact ⟨_, rfl, hok, h0.widen hs⟩
  tight h := by
    obtain ⟨v_l, rfl, hok, h0⟩ := h
    exact ⟨_, rfl, hok, h0.tight⟩
/-- an opening -/
structure Op where
  ix : Int
  pl : List Int
  nc : List Int
abbrev Op.cells (x : Op) (v_pl : Value) : List Value := [.int .i64 x.ix, v_pl] ++ x.nc.map bv
def Op.OK (x : Op) : Prop := I64 x.ix ∧ HK x.nc
def Op.rd (R : Nat → Prop) (w : World) (cs : List Value) (x : Op) : Prop := ∃ v_pl, cs = x.cells v_pl ∧ x.OK ∧ RdR R x.pl.length w v_pl x.pl
def OpR : Rep Op where
  sz := 34
  pos := by decide
  rd := Op.rd
  len h := by
    obtain ⟨v_pl, rfl, hok, h0⟩ := h
    simp [Op.cells, hok.2.1]
  one h := by
    obtain ⟨v_pl, rfl, hok, h0⟩ := h
    obtain ⟨_, _, e_pl⟩ := h0.shape
    subst e_pl
    intro u hu
    simp only [Op.cells, List.mem_append, List.mem_cons, List.not_mem_nil, or_false, List.mem_map] at hu
    rcases hu with (rfl | rfl) | ⟨y, -, rfl⟩ <;> rfl
  keep h hk := by
    obtain ⟨v_pl, rfl, hok, h0⟩ := h
    exact ⟨_, rfl, hok, RdR_keep h0 hk⟩
  wid h hs := by
    obtain ⟨v_pl, rfl, hok, h0⟩ := h
    exact ⟨_, rfl, hok, h0.widen hs (Nat.le_refl _)⟩
  tight h := by
    obtain ⟨v_pl, rfl, hok, h0⟩ := h
    exact ⟨_, rfl, hok, RdR_tight h0⟩
/-- a tombstone -/
structure Tb where
  ix : Int
  l : List Dn
abbrev Tb.cells (x : Tb) (v_l : Value) : List Value := [.int .i64 x.ix, v_l]
def Tb.OK (x : Tb) : Prop := I64 x.ix
def Tb.rd (R : Nat → Prop) (w : World) (cs : List Value) (x : Tb) : Prop := ∃ v_l, cs = x.cells v_l ∧ x.OK ∧ RdS DnR R w v_l x.l
def TbR : Rep Tb where
  sz := 2
  pos := by decide
  rd := Tb.rd
  len h := by
    obtain ⟨v_l, rfl, hok, h0⟩ := h
    rfl
  one h := by
    obtain ⟨v_l, rfl, hok, h0⟩ := h
    obtain ⟨_, _, e_l⟩ := h0.shape
    subst e_l
    intro u hu
    simp only [Tb.cells, List.mem_append, List.mem_cons, List.not_mem_nil, or_false, List.mem_map] at hu
    rcases hu with rfl | rfl <;> rfl
  keep h hk := by
    obtain ⟨v_l, rfl, hok, h0⟩ := h
    exact ⟨_, rfl, hok, h0.keep hk⟩
  wid h hs := by
    obtain ⟨v_l, rfl, hok, h0⟩ := h
    exact ⟨_, rfl, hok, h0.widen hs⟩
  tight h := by
    obtain ⟨v_l, rfl, hok, h0⟩ := h
    exact ⟨_, rfl, hok, h0.tight⟩
/-- a batch -/
structure Ba where
  ep : Int
  tm : Nat
  ps : List Pm
  os : List Op
  ts : List Tb
abbrev Ba.cells (x : Ba) (v_ps v_os v_ts : Value) : List Value := [.int .i64 x.ep, .int .u64 (x.tm : Nat), v_ps, v_os, v_ts]
def Ba.OK (x : Ba) : Prop := I64 x.ep ∧ x.tm < U64
def Ba.rd (R : Nat → Prop) (w : World) (cs : List Value) (x : Ba) : Prop := ∃ v_ps v_os v_ts, cs = x.cells v_ps v_os v_ts ∧ x.OK ∧ RdS PmR R w v_ps x.ps ∧ RdS OpR R w v_os x.os ∧ RdS TbR R w v_ts x.ts
/-- a proposal -/
structure Pr where
  ep : Int
  rn : Int
  vl : Int
  rp : Int
  ba : Ba
  sb : Int
  mr : Int
abbrev Pr.cells (x : Pr) (v_ps v_os v_ts : Value) : List Value := [.int .i64 x.ep, .int .i64 x.rn, .int .i64 x.vl, .int .i64 x.rp, .int .i64 x.ba.ep, .int .u64 (x.ba.tm : Nat), v_ps, v_os, v_ts, .int .i64 x.sb, .int .i64 x.mr]
def Pr.OK (x : Pr) : Prop := I64 x.ep ∧ I64 x.rn ∧ I64 x.vl ∧ I64 x.rp ∧ x.ba.OK ∧ I64 x.sb ∧ I64 x.mr
def Pr.rd (R : Nat → Prop) (w : World) (cs : List Value) (x : Pr) : Prop := ∃ v_ps v_os v_ts, cs = x.cells v_ps v_os v_ts ∧ x.OK ∧ RdS PmR R w v_ps x.ba.ps ∧ RdS OpR R w v_os x.ba.os ∧ RdS TbR R w v_ts x.ba.ts
end Go.Proofs.Ytfgepphankfbfaa

/- Building a struct or an array out of parts; bytes as a string. No program here. -/
set_option linter.unusedVariables false
namespace Go.Gv
open Go Go.RowKit

section
variable {P : Program} {o : Oper} {a : Act} {w : World}
/-- the parts laid into a struct's zero -/
def laid (places : List (Nat × Nat)) : List Value → List (Nat × Value) → Option (List Value)
  | z, [] => some z
  | z, (i, v) :: r => match places[i]? with
    | none => none
    | some (off, size) => if v.cells.size ≠ size ∨ z.length < off + size then none else laid places (z.take off ++ v.cells.toList ++ z.drop (off + size)) r
theorem ex_lenS {t e : TypeId} {m : Operand} {ao : Option Addr} {n cap : Nat} (ho : o.op = Op.call { callee := Callee.builtin Builtin.len, args := #[m], argTypes := #[t] }) (hm : a.eval m = .slice ao n cap) (ht : P.underlying t = some (.slice e)) : (execOp a.eval o).run P w = .ok (.value (.int .i64 n)) w := by
  simp [execOp, ho, resolve, invoke, builtin, hm, Builtin.len_, run_underlying ht, goInt, Result.andThen]
theorem run_add_i {t : TypeId} {k : IntKind} (x y : Int) (h : P.underlying t = some (.int k)) : (binOp .add t (.int k x) (.int k y)).run P w = .ok (.int k (k.wrap (x + y))) w := by
  simp [binOp, Op.intArith]
end
end Go.Gv
namespace Go.Proofs.Ytfgepphankfbfaa
open Go Go.RowKit Go.Gv
end Go.Proofs.Ytfgepphankfbfaa

/- A region in which, besides a chain, new variables are made and written whole (x, y := f(), g()). No program here. -/
set_option linter.unusedVariables false
namespace Go.Gv
open Go Go.RowKit

/-- a new variable of the region: the operation that makes it, the one that writes it, its type, its zero, what is written -/
structure AlRow where
  a : Nat
  s : Nat
  T : TypeId
  z : List Value
  c : List Value
section
variable {P : Program} {ops : Array Oper} {Q : Exit → Act → World → Prop}
/-- the new variables: made ones stand in blocks of their own -/
structure AlInv (w0 : World) (al : List AlRow) (L : Nat → Bool) (vs : List Value) (w : World) : Prop where
  at_ : ∀ r ∈ al, L r.a = true → ∃ q, vs[r.a]? = some (.pointer (some ⟨q, 0, none⟩)) ∧ w0.heap.size ≤ q ∧ Cs w q (if L r.s then r.c.toArray else r.z.toArray) r.T
  ne : ∀ r ∈ al, ∀ r' ∈ al, r.a ≠ r'.a → L r.a = true → L r'.a = true → vs[r.a]? ≠ vs[r'.a]?
theorem AlInv.start (w0 : World) (al : List AlRow) (vs : List Value) (w : World) : AlInv w0 al (fun _ => false) vs w := ⟨(fun _ _ h => by cases h), (fun _ _ _ _ _ h => by cases h)⟩
theorem AlInv.other {w0 : World} {al : List AlRow} {L : Nat → Bool} {vs : List Value} {w w' : World} (h : AlInv w0 al L vs w) {i : Nat} {v : Value} (hi : ∀ r ∈ al, r.a ≠ i ∧ r.s ≠ i) (hc : ∀ r ∈ al, ∀ q c, w0.heap.size ≤ q → Cs w q c r.T → Cs w' q c r.T) : AlInv w0 al (upd L i) (vs.set i v) w' := by
  have hu : ∀ r ∈ al, upd L i r.a = L r.a ∧ upd L i r.s = L r.s := fun r hr => by unfold upd; rw [if_neg (hi r hr).1, if_neg (hi r hr).2]; exact ⟨rfl, rfl⟩
  have hv : ∀ r ∈ al, (vs.set i v)[r.a]? = vs[r.a]? := fun r hr => List.getElem?_set_ne (Ne.symm (hi r hr).1)
  refine ⟨fun r hr hL => ?_, fun r hr r' hr' hne h1 h2 => ?_⟩
  · rw [(hu r hr).1] at hL
    obtain ⟨q, e1, e2, e3⟩ := h.at_ r hr hL
    rw [hv r hr, (hu r hr).2]
    exact ⟨q, e1, e2, hc r hr _ _ e2 e3⟩
  · rw [(hu r hr).1] at h1
    rw [(hu r' hr').1] at h2
    rw [hv r hr, hv r' hr']
    exact h.ne r hr r' hr' hne h1 h2
end
def EndS (w0 : World) (n : Nat) (p : GPred) : Prop := ∀ t v w w', t.length = n → p t v w → Mod (fun k => w0.heap.size ≤ k) w w' → p t v w'
def AllEnd (w0 : World) (n : Nat) : List GPred → Prop
  | [] => True
  | p :: r => EndS w0 n p ∧ AllEnd w0 n r
theorem AllEnd.get {w0 : World} {n : Nat} : ∀ (l : List GPred), AllEnd w0 n l → ∀ p t v w w', t.length = n → (l.getD p ga) t v w → Mod (fun k => w0.heap.size ≤ k) w w' → (l.getD p ga) t v w'
  | [], _, _, _, _, _, _, _, h, _ => h
  | q :: r, h, 0, t, v, w, w', h1, h2, h3 => h.1 t v w w' h1 h2 h3
  | q :: r, h, i + 1, t, v, w, w', h1, h2, h3 => by
    have := AllEnd.get r h.2 i t v w w' h1 (by simpa using h2) h3
    simpa using this
section
variable {w0 : World} {n : Nat}
theorem MapIs.marked {κ ν : Type} {enc : κ → Value} {val : ν → Value} {ok : κ → Prop} {l : List (κ × ν)} {b B : Nat} {T8 : TypeId} {w w' : World} (h : MapIs w b enc val ok l) (hm : Marked B T8 w w') : MapIs w' b enc val ok l := by
  obtain ⟨⟨es, clock, hb, he⟩, h2, h3⟩ := h
  refine ⟨⟨es, clock, ?_, he⟩, h2, h3⟩
  rcases hm.block b (Array.getElem?_eq_some_iff.1 hb).1 with h1 | ⟨-, C, m, h1, -⟩
  · exact h1.trans hb
  · rw [hb] at h1; cases h1
end
end Go.Gv

/- A region whose operations that turn what stood before stand one behind the other (the chain): they are told step by step, as straight code; beside them stand operations that only read or make blocks of their own, and new variables that are written whole. No program here. -/
set_option linter.unusedVariables false
namespace Go.Gv
open Go Go.RowKit

section
variable {P : Program} {ops : Array Oper} {Q : Exit → Act → World → Prop}
/-- what is said of an operation's answer: the new blocks that may still be turned; the chain's answers so far; the answer; the world -/
abbrev QPred := (Nat → Prop) → List Value → Value → World → Prop
/-- what the operations beside the chain may do: new blocks; a new block that nobody turns may be marked -/
structure QE (B : Nat) (Z : Nat → Prop) (w w' : World) : Prop where
  os : w'.os = w.os
  tape : w'.tape = w.tape
  output : w'.output = w.output
  size : w.heap.size ≤ w'.heap.size
  block : ∀ k, k < w.heap.size → w'.heap[k]? = w.heap[k]? ∨ (B ≤ k ∧ ¬ Z k ∧ ∃ C T m m', w.heap[k]? = some (.cells C T m) ∧ w'.heap[k]? = some (.cells C T m'))
structure QStable (B : Nat) (S0 : Nat → Prop) (p : QPred) : Prop where
  env : ∀ Z t v w w', p Z t v w → QE B Z w w' → p Z t v w'
  on : ∀ Z Z' t t' v w w', p Z t v w → Mod (fun j => (j < B ∧ S0 j) ∨ (B ≤ j ∧ Z j)) w w' → (∀ j, Z' j → Z j ∨ w.heap.size ≤ j) → (t' = t ∨ ∃ u, t' = t ++ [u]) → p Z' t' v w'
variable {B : Nat} {S0 : Nat → Prop} {Z Z' Y : Nat → Prop} {w w' : World} {t t' : List Value}
theorem QE.still (h : Mod (fun _ => False) w w') : QE B Z w w' := ⟨h.os, h.tape, h.output, h.size, fun k hk => Or.inl (h.block k hk (fun h => h))⟩
theorem QE.refl : QE B Z w w := QE.still (Mod.refl _ _)
theorem QE.mod (h : QE B Z w w') (hY : ∀ j, Y j → Z j) : Mod (fun j => B ≤ j ∧ ¬ Y j) w w' :=
  ⟨h.os, h.tape, h.output, h.size, fun k hk hn => (h.block k hk).elim (fun h => h) (fun ⟨h1, h2, _⟩ => absurd ⟨h1, fun h => h2 (hY k h)⟩ hn)⟩
theorem QE.cell (h : QE B Z w w') {p : Addr} {u : Value} (hc : w.cell? p = some u) : w'.cell? p = some u := by
  rcases h.block p.block (World.block_lt_of_cell? _ _ hc) with e | ⟨-, -, C, T, m, m', e1, e2⟩
  · exact (World.cell?_of_block e).trans hc
  · unfold World.cell? at hc ⊢
    rw [e1] at hc
    rw [e2]
    exact hc
def qi (x : Value) : QPred := fun _ _ v _ => v = x
def qa : QPred := fun _ _ _ _ => True
def qv (j : Nat) : QPred := fun _ t v _ => t[j]? = some v
/-- only where a test says so -/
def qc (b : Bool) (p : QPred) : QPred := fun Z t v w => (b = true → p Z t v w) ∧ (b = false → v = undef)
/-- a literal's row -/
def ql (B : Nat) (T8 : TypeId) (C : Array Value) : QPred := fun Z _ v w => ∃ g, v = .slice (some ⟨g, 0, none⟩) C.size C.size ∧ B ≤ g ∧ ¬ Z g ∧ ∃ m, w.heap[g]? = some (.cells C T8 m)
theorem qi_stable {x : Value} : QStable B S0 (qi x) := ⟨fun _ _ _ _ _ h _ => h, fun _ _ _ _ _ _ _ h _ _ _ => h⟩
theorem qa_stable : QStable B S0 qa := ⟨fun _ _ _ _ _ h _ => h, fun _ _ _ _ _ _ _ h _ _ _ => h⟩
theorem qv_stable {j : Nat} : QStable B S0 (qv j) := ⟨fun _ _ _ _ _ h _ => h, fun Z Z' t t' v w w' h _ _ ht => by
  rcases ht with rfl | ⟨u, rfl⟩
  · exact h
  · exact gv_at h⟩
theorem qc_stable {b : Bool} {p : QPred} (h : QStable B S0 p) : QStable B S0 (qc b p) :=
  ⟨fun Z t v w w' hp he => ⟨fun hb => h.env _ _ _ _ _ (hp.1 hb) he, hp.2⟩, fun Z Z' t t' v w w' hp hm hz ht => ⟨fun hb => h.on _ _ _ _ _ _ _ (hp.1 hb) hm hz ht, hp.2⟩⟩
theorem ql_stable {T8 : TypeId} {C : Array Value} : QStable B S0 (ql B T8 C) where
  env Z t v w w' h he := by
    obtain ⟨g, h1, h2, h3, m, h4⟩ := h
    rcases he.block g (Array.getElem?_eq_some_iff.1 h4).1 with e | ⟨-, -, C', T', m1, m2, e1, e2⟩
    · exact ⟨g, h1, h2, h3, m, e.trans h4⟩
    · rw [h4] at e1
      cases e1
      exact ⟨g, h1, h2, h3, m2, e2⟩
  on Z Z' t t' v w w' h hm hz ht := by
    obtain ⟨g, h1, h2, h3, m, h4⟩ := h
    have hlt := (Array.getElem?_eq_some_iff.1 h4).1
    refine ⟨g, h1, h2, fun hg => ?_, m, hm.obj h4 (fun hs => ?_)⟩
    · rcases hz g hg with h | h
      · exact h3 h
      · omega
    · rcases hs with hs | hs
      · omega
      · exact h3 hs.2
def AllQ (B : Nat) (S0 : Nat → Prop) : List QPred → Prop
  | [] => True
  | p :: r => QStable B S0 p ∧ AllQ B S0 r
theorem AllQ.get : ∀ (l : List QPred), AllQ B S0 l → ∀ i, QStable B S0 (l.getD i qa)
  | [], _, _ => by simpa using qa_stable
  | p :: r, h, 0 => h.1
  | p :: r, h, i + 1 => by simpa using AllQ.get r h.2 i

/-- a new variable that is written whole: the operation that makes it, the one that writes it, its type, its zero; what is written hangs on the chain's first k answers -/
structure QRow where
  a : Nat
  s : Nat
  T : TypeId
  z : List Value
  k : Nat
  c : List Value → List Value
def qDist (al : List QRow) : Bool := decide ((al.map (·.a) ++ al.map (·.s)).Nodup)
theorem q_uniq {al : List QRow} (h : qDist al = true) : (∀ r ∈ al, ∀ r' ∈ al, r.a = r'.a → r = r') ∧ (∀ r ∈ al, ∀ r' ∈ al, r.s = r'.s → r = r') ∧ (∀ r ∈ al, ∀ r' ∈ al, r.a ≠ r'.s) := by
  unfold qDist at h
  have h := of_decide_eq_true h
  obtain ⟨h1, h2, h3⟩ := List.nodup_append.1 h
  refine ⟨fun r hr r' hr' e => ?_, fun r hr r' hr' e => ?_, fun r hr r' hr' => h3 _ (List.mem_map.2 ⟨r, hr, rfl⟩) _ (List.mem_map.2 ⟨r', hr', rfl⟩)⟩
  · obtain ⟨j, hj⟩ := List.getElem?_of_mem hr
    obtain ⟨j', hj'⟩ := List.getElem?_of_mem hr'
    have e1 : (al.map (·.a))[j]? = some r.a := by rw [List.getElem?_map, hj]; rfl
    have e2 : (al.map (·.a))[j']? = some r.a := by rw [List.getElem?_map, hj', e]; rfl
    have := (List.getElem?_inj (List.getElem?_eq_some_iff.1 e1).1 h1).1 (e1.trans e2.symm)
    subst this
    exact Option.some.inj (hj.symm.trans hj')
  · obtain ⟨j, hj⟩ := List.getElem?_of_mem hr
    obtain ⟨j', hj'⟩ := List.getElem?_of_mem hr'
    have e1 : (al.map (·.s))[j]? = some r.s := by rw [List.getElem?_map, hj]; rfl
    have e2 : (al.map (·.s))[j']? = some r.s := by rw [List.getElem?_map, hj', e]; rfl
    have := (List.getElem?_inj (List.getElem?_eq_some_iff.1 e1).1 h2).1 (e1.trans e2.symm)
    subst this
    exact Option.some.inj (hj.symm.trans hj')

/-- what the chain has still to do: told step by step -/
def QChain (P : Program) (ops : Array Oper) (Q : Exit → Act → World → Prop) (a0 : Act) (n : Nat) (ss : List Nat) (B : Nat) (S0 : Nat → Prop) (SS : Nat → Nat → Prop) (l : List QPred) (al : List QRow) : List Nat → Nat → (Nat → Prop) → List Value → World → Prop
  | [], _, Y, t, w => ∀ vs, vs.length = ss.length → (∃ Z : Nat → Prop, (∀ j, Y j → Z j) ∧ (∀ j, Z j → B ≤ j ∧ j < w.heap.size) ∧ ∀ p v, vs[p]? = some v → (l.getD p qa) Z t v w) →
      (∀ r ∈ al, ∃ q, vs[r.a]? = some (.pointer (some ⟨q, 0, none⟩)) ∧ B ≤ q ∧ ¬ Y q ∧ Cs w q (r.c (t.take r.k)).toArray r.T) → (∀ r ∈ al, ∀ r' ∈ al, r.a ≠ r'.a → vs[r.a]? ≠ vs[r'.a]?) → Q .normal (putAll a0 ss vs) w
  | i :: c, k, Y, t, w => ∀ Z a, (∀ j, Y j → Z j) → (∀ j, Z j → B ≤ j ∧ j < w.heap.size) → (∀ t, t ∉ ss → a.eval (.tmp t) = a0.eval (.tmp t)) → (∀ s, s < n → s < a.tmps.size) →
      (∀ o, ops[i]? = some o → ∀ e ∈ o.after, Region.binds .any e = true → ∀ s, (ops[e.on]?).bind (·.dst) = some s → (l.getD e.on qa) Z t (a.eval (.tmp s)) w) →
      (∀ j s, (ops[j]?).bind (·.dst) = some s → (clo ops ops.size (afterOf ops j)).contains i = true → a.eval (.tmp s) = a0.eval (.tmp s)) → 
      wpOp P ops Q i (fun a' w' => ∃ o v, ops[i]? = some o ∧ a' = a.put o.dst v ∧ Mod (fun j => (j < B ∧ SS k j) ∨ Y j) w w' ∧ (∀ Z, (l.getD i qa) Z (t ++ [v]) v w') ∧
        ∀ w'', Mod (fun j => B ≤ j ∧ ¬ (Y j ∨ (w.heap.size ≤ j ∧ j < w'.heap.size))) w' w'' → QChain P ops Q a0 n ss B S0 SS l al c (k + 1) (fun j => Y j ∨ (w.heap.size ≤ j ∧ j < w'.heap.size)) (t ++ [v]) w'') a w

/-- what is to be shown of an operation that makes a new variable -/
def MakesQ (P : Program) (r : QRow) (o : Oper) : Prop := o.guard = none ∧ o.op = .alloc r.T ∧ (P.info? r.T).bind (·.zero) = some (.agg r.z.toArray) ∧ (P.info? r.T).map (·.size) = some r.z.length
/-- of one that writes it -/
def WritesQ (ops : Array Oper) (a0 : Act) (w0 : World) (n : Nat) (ss : List Nat) (S0 : Nat → Prop) (l : List QPred) (r : QRow) (i : Nat) (o : Oper) : Prop :=
  o.guard = none ∧ ∃ sa y, (ops[r.a]?).bind (·.dst) = some sa ∧ sa < n ∧ o.op = .store r.T (.tmp sa) y ∧ (clo ops ops.size (afterOf ops i)).contains r.a = true ∧
    ∀ (Z : Nat → Prop) (t : List Value) (a : Act) (w : World), Mod (fun j => (j < w0.heap.size ∧ S0 j) ∨ w0.heap.size ≤ j) w0 w → (∀ t, t ∉ ss → a.eval (.tmp t) = a0.eval (.tmp t)) → (∀ s, s < n → s < a.tmps.size) →
      (∀ e ∈ o.after, Region.binds .any e = true → ∀ s, (ops[e.on]?).bind (·.dst) = some s → (l.getD e.on qa) Z t (a.eval (.tmp s)) w) → (∀ j s, (ops[j]?).bind (·.dst) = some s → (clo ops ops.size (afterOf ops j)).contains i = true → a.eval (.tmp s) = a0.eval (.tmp s)) → r.k ≤ t.length ∧ (a.eval y).cells = (r.c (t.take r.k)).toArray ∧ (r.c (t.take r.k)).length = r.z.length ∧ ∀ u ∈ r.c (t.take r.k), u.oneCell' = true
/-- how an operation beside the chain leaves things -/
def QJ (B : Nat) (l : List QPred) (Z : Nat → Prop) (i : Nat) (o : Oper) (t : List Value) (a : Act) (w : World) : Act → World → Prop := fun a' w' => ∃ v, a' = a.put o.dst v ∧ QE B Z w w' ∧ (l.getD i qa) Z t v w'
def StepQ (P : Program) (ops : Array Oper) (Q : Exit → Act → World → Prop) (a0 : Act) (w0 : World) (n : Nat) (ss : List Nat) (S0 : Nat → Prop) (SS : Nat → Nat → Prop) (l : List QPred) (c : List Nat) (al : List QRow) (i : Nat) (o : Oper) : Prop :=
  if c.contains i then True else
  match al.find? (fun r => r.a == i) with
  | some r => MakesQ P r o
  | none => match al.find? (fun r => r.s == i) with
    | some r => WritesQ ops a0 w0 n ss S0 l r i o
    | none => ∀ (Z : Nat → Prop) t a w, (∀ j, Z j → w0.heap.size ≤ j ∧ j < w.heap.size) → Mod (fun j => (j < w0.heap.size ∧ S0 j) ∨ w0.heap.size ≤ j) w0 w → Mod (fun j => (j < w0.heap.size ∧ ∃ k, k < t.length ∧ SS k j) ∨ w0.heap.size ≤ j) w0 w → (∀ t, t ∉ ss → a.eval (.tmp t) = a0.eval (.tmp t)) → (∀ s, s < n → s < a.tmps.size) →
        (∀ e ∈ o.after, Region.binds .any e = true → ∀ s, (ops[e.on]?).bind (·.dst) = some s → (l.getD e.on qa) Z t (a.eval (.tmp s)) w) → (∀ k q, c[k]? = some q → (clo ops ops.size (afterOf ops q)).contains i = true → t.length ≤ k) → (∀ j s, (ops[j]?).bind (·.dst) = some s → (clo ops ops.size (afterOf ops j)).contains i = true → a.eval (.tmp s) = a0.eval (.tmp s)) → 
        wpOp P ops Q i (QJ w0.heap.size l Z i o t a w) a w
/-- the new variables: made ones stand in blocks of their own -/
structure QInv (Ao : Nat → Prop) (al : List QRow) (L : Nat → Bool) (t : List Value) (vs : List Value) (w : World) : Prop where
  at_ : ∀ r ∈ al, L r.a = true → ∃ q, vs[r.a]? = some (.pointer (some ⟨q, 0, none⟩)) ∧ Ao q ∧ Cs w q (if L r.s then (r.c (t.take r.k)).toArray else r.z.toArray) r.T ∧ (L r.s = true → r.k ≤ t.length)
  ne : ∀ r ∈ al, ∀ r' ∈ al, r.a ≠ r'.a → L r.a = true → L r'.a = true → vs[r.a]? ≠ vs[r'.a]?
theorem QInv.other {Ao Ao' : Nat → Prop} {al : List QRow} {L : Nat → Bool} {t t' : List Value} {vs : List Value} {w w' : World} (h : QInv Ao al L t vs w) {i : Nat} {v : Value} (hi : ∀ r ∈ al, r.a ≠ i ∧ r.s ≠ i) (hA : ∀ q, Ao q → Ao' q) (ht : t' = t ∨ ∃ u, t' = t ++ [u]) (hc : ∀ q c T, Ao q → Cs w q c T → Cs w' q c T) : QInv Ao' al (upd L i) t' (vs.set i v) w' := by
  have hu : ∀ r ∈ al, upd L i r.a = L r.a ∧ upd L i r.s = L r.s := fun r hr => by unfold upd; rw [if_neg (hi r hr).1, if_neg (hi r hr).2]; exact ⟨rfl, rfl⟩
  have hv : ∀ r ∈ al, (vs.set i v)[r.a]? = vs[r.a]? := fun r hr => List.getElem?_set_ne (Ne.symm (hi r hr).1)
  refine ⟨fun r hr hL => ?_, fun r hr r' hr' hne h1 h2 => ?_⟩
  · rw [(hu r hr).1] at hL
    obtain ⟨q, e1, e2, e3, e4⟩ := h.at_ r hr hL
    rw [hv r hr, (hu r hr).2]
    refine ⟨q, e1, hA q e2, ?_, fun hs => ?_⟩
    · have e5 := hc q _ _ e2 e3
      rcases ht with rfl | ⟨u, rfl⟩
      · exact e5
      · cases hs : L r.s with
        | false => rw [hs] at e5; exact e5
        | true =>
          rw [hs] at e5
          rw [List.take_append_of_le_length (e4 hs)]
          exact e5
    · have := e4 hs
      rcases ht with rfl | ⟨u, rfl⟩
      · exact this
      · rw [List.length_append]; omega
  · rw [(hu r hr).1] at h1
    rw [(hu r' hr').1] at h2
    rw [hv r hr, hv r' hr']
    exact h.ne r hr r' hr' hne h1 h2

theorem wp_region_Q {d : Bool} {id : Nat} {a0 : Act} {w0 : World} (n : Nat) (hn : a0.tmps.size = n) (hm : P.follows .mixedOrders = true) (hac : backward ops = true) (ss : List Nat) (hss : okSlots ops n ss = true) (hnd : ss.Nodup)
    (S0 : Nat → Prop) (SS : Nat → Nat → Prop) (hSS : ∀ k j, SS k j → S0 j) (l : List QPred) (stable : AllQ w0.heap.size S0 l) (c : List Nat) (hlk : linked ops c = true) (hcn : c.Nodup) (hcs : (c.all fun i => decide (i < ops.size)) = true)
    (al : List QRow) (hal : qDist al = true) (hac2 : ∀ r ∈ al, c.contains r.a = false ∧ c.contains r.s = false) (hals : ∀ r ∈ al, r.a < ops.size ∧ r.s < ops.size) (hga : ∀ r ∈ al, ∀ Z t v w, (l.getD r.a qa) Z t v w ∧ (l.getD r.s qa) Z t v w)
    (step : Each (StepQ P ops Q a0 w0 n ss S0 SS l c al) 0 ops.toList)
    (start : ∀ w1, Mod (fun j => w0.heap.size ≤ j) w0 w1 → QChain P ops Q a0 n ss w0.heap.size S0 SS l al c 0 (fun _ => False) [] w1) : (Code.region id ops d).wp P Q a0 w0 := by
  have hinj : ∀ (j k i : Nat), c[j]? = some i → c[k]? = some i → j = k := by
    intro j k i h1 h2
    exact (List.getElem?_inj (List.getElem?_eq_some_iff.1 h1).1 hcn).1 (h1.trans h2.symm)
  obtain ⟨hu1, hu2, hu3⟩ := q_uniq hal
  have fa : ∀ r ∈ al, al.find? (fun x => x.a == r.a) = some r := by
    intro r hr
    cases hq : al.find? (fun x => x.a == r.a) with
    | none => have := List.find?_eq_none.1 hq r hr; simp at this
    | some r' =>
      have e := List.find?_some hq
      rw [hu1 r' (List.mem_of_find?_eq_some hq) r hr (by simpa using e)]
  have fs : ∀ r ∈ al, al.find? (fun x => x.s == r.s) = some r := by
    intro r hr
    cases hq : al.find? (fun x => x.s == r.s) with
    | none => have := List.find?_eq_none.1 hq r hr; simp at this
    | some r' =>
      have e := List.find?_some hq
      rw [hu2 r' (List.mem_of_find?_eq_some hq) r hr (by simpa using e)]
  have fas : ∀ r ∈ al, al.find? (fun x => x.a == r.s) = none := by
    intro r hr
    rw [List.find?_eq_none]
    intro x hx
    simpa using hu3 x hx r hr
  refine wp_region_both hm (backward_spec hac) ss (fun L vs w => ∃ (Y A : Nat → Prop) (t : List Value), Mod (fun j => (j < w0.heap.size ∧ S0 j) ∨ w0.heap.size ≤ j) w0 w ∧ Mod (fun j => (j < w0.heap.size ∧ ∃ k, k < t.length ∧ SS k j) ∨ w0.heap.size ≤ j) w0 w ∧ (∀ x, ops.size ≤ x → L x = false) ∧ Down ops L ∧
      t.length ≤ c.length ∧ (∀ j p, j < t.length → c[j]? = some p → L p = true) ∧ (∀ j p, t.length ≤ j → c[j]? = some p → L p = false) ∧ (∀ j, Y j → w0.heap.size ≤ j ∧ j < w.heap.size) ∧ (∀ j, A j → w0.heap.size ≤ j ∧ j < w.heap.size ∧ ¬ Y j) ∧
      (∀ w'', Mod (fun j => w0.heap.size ≤ j ∧ ¬ Y j) w w'' → QChain P ops Q a0 n ss w0.heap.size S0 SS l al (c.drop t.length) t.length Y t w'') ∧ (∀ p v, L p = true → vs[p]? = some v → (l.getD p qa) (fun j => Y j ∨ A j) t v w) ∧ QInv A al L t vs w ∧ ∀ p, L p = false → vs[p]? = (ss.map fun s => a0.tmps.getD s undef)[p]?)
    ⟨fun _ => False, fun _ => False, [], Mod.refl _ _, Mod.refl _ _, (fun _ _ => rfl), (fun i h => by cases h), Nat.zero_le _, (fun j p h => by simp at h), (fun _ _ _ _ => rfl), (fun _ h => h.elim), (fun _ h => h.elim), (fun w'' h => start w'' (h.mono fun _ _ h => h.1)), (fun p v h => by cases h), ⟨(fun _ _ h => by cases h), (fun _ _ _ _ _ h => by cases h)⟩, fun _ _ => rfl⟩
    ⟨fun _ => False, fun _ => False, [], (Mod.refl _ _).drew, (Mod.refl _ _).drew, (fun _ _ => rfl), (fun i h => by cases h), Nat.zero_le _, (fun j p h => by simp at h), (fun _ _ _ _ => rfl), (fun _ h => h.elim), (fun _ h => h.elim), (fun w'' h => start w'' (((Mod.refl _ w0).drew).trans h fun _ _ h => h.1)), (fun p v h => by cases h), ⟨(fun _ _ h => by cases h), (fun _ _ _ _ _ h => by cases h)⟩, fun _ _ => rfl⟩ ?_ ?_
  · rintro i o ho L vs w hL hd hl ⟨Y, A, t, hmod, hmod0, hLout, hD, hkl, hk1, hk2, hY, hAb, hC, hV, hA, hU⟩
    have hst := Each.get _ 0 step i o (by simpa using ho)
    rw [Nat.zero_add] at hst
    obtain ⟨s, hs, hds⟩ := okSlots_at hss ho
    have haf : ∀ x ∈ afterOf ops i, L x = true := by
      intro x hx
      obtain ⟨o', ho', e, he, hb, rfl⟩ := mem_afterOf.1 hx
      rw [ho] at ho'
      cases ho'
      exact hd e he hb
    have hDn : Down ops (upd L i) := by
      intro j hj x hx
      unfold upd at hj ⊢
      by_cases e : x = i
      · rw [if_pos e]
      · rw [if_neg e]
        by_cases e2 : j = i
        · subst e2; exact haf x hx
        · rw [if_neg e2] at hj; exact hD j hj x hx
    have hLn : ∀ x, ops.size ≤ x → upd L i x = false := fun x hx => by
      have hi := (Array.getElem?_eq_some_iff.1 ho).1
      unfold upd
      rw [if_neg (by omega)]
      exact hLout x hx
    have hGk : ∀ k' : Nat, c[k']? = some i → k' = t.length := by
      intro k' hk'
      have hall := linked_all hD hlk k' i hk' haf
      rcases Nat.lt_trichotomy k' t.length with h | h | h
      · have := hk1 k' i h hk'; rw [hL] at this; cases this
      · exact h
      · have hlt : t.length < c.length := by have := (List.getElem?_eq_some_iff.1 hk').1; omega
        have := hall t.length c[t.length] h (List.getElem?_eq_getElem hlt)
        rw [hk2 t.length c[t.length] (Nat.le_refl _) (List.getElem?_eq_getElem hlt)] at this
        cases this
    have hub : ∀ k q, c[k]? = some q → (clo ops ops.size (afterOf ops q)).contains i = true → t.length ≤ k := by
      intro k q hq hc
      rcases Nat.lt_or_ge k t.length with h | h
      · have h1 := hk1 k q h hq
        have h2 := clo_done hD _ _ (fun x hx => hD q h1 x hx) i (by simpa using hc)
        rw [hL] at h2
        cases h2
      · exact h
    have hlt : i < vs.length := by rw [hl]; exact (List.getElem?_eq_some_iff.1 hs).1
    have hput : ∀ v, (putAll a0 ss vs).put o.dst v = putAll a0 ss (vs.set i v) := by
      intro v
      have e1 := putAll_put _ _ a0 i s v hnd hl hs
      rcases hds with ⟨h1, h2⟩ | ⟨h1, h2⟩
      · rw [h1]; exact e1
      · rw [h1, ← e1, put_far _ (by rw [putAll_size, hn]; exact h2)]; rfl
    have hpred : ∀ e ∈ o.after, Region.binds .any e = true → ∀ s', (ops[e.on]?).bind (·.dst) = some s' → (l.getD e.on qa) (fun j => Y j ∨ A j) t ((putAll a0 ss vs).eval (.tmp s')) w := by
      intro e he hb s' hs'
      have hLe := hd e he hb
      cases hoe : ops[e.on]? with
      | none => rw [hoe] at hs'; cases hs'
      | some o2 =>
        rw [hoe] at hs'
        obtain ⟨s2, hs2, hds2⟩ := okSlots_at hss hoe
        rcases hds2 with ⟨h1, h2⟩ | ⟨h1, h2⟩
        · have e3 : s2 = s' := Option.some.inj (h1.symm.trans hs')
          subst e3
          have hvl : e.on < vs.length := by rw [hl]; exact (List.getElem?_eq_some_iff.1 hs2).1
          rw [eval_in a0 ss vs e.on s2 vs[e.on] hnd hl hs2 (by rw [hn]; exact h2) (List.getElem?_eq_getElem hvl)]
          exact hV _ _ hLe (List.getElem?_eq_getElem hvl)
        · have : (none : Option Nat) = some s' := h1.symm.trans hs'
          cases this
    have hUn : ∀ v, ∀ p, upd L i p = false → (vs.set i v)[p]? = (ss.map fun s => a0.tmps.getD s undef)[p]? := by
      intro v p hp
      unfold upd at hp
      by_cases e : p = i
      · rw [if_pos e] at hp; cases hp
      · rw [if_neg e] at hp
        rw [List.getElem?_set_ne (Ne.symm e)]
        exact hU p hp
    have hpre : ∀ j s, (ops[j]?).bind (·.dst) = some s → (clo ops ops.size (afterOf ops j)).contains i = true → (putAll a0 ss vs).eval (.tmp s) = a0.eval (.tmp s) := by
      intro j s hj hc
      have hLj : L j = false := by
        cases hq : L j with
        | false => rfl
        | true =>
          have := clo_done hD _ _ (fun x hx => hD j hq x hx) i (by simpa using hc)
          rw [hL] at this
          cases this
      cases hoj : ops[j]? with
      | none => rw [hoj] at hj; cases hj
      | some o2 =>
        rw [hoj] at hj
        obtain ⟨s2, hs2, hds2⟩ := okSlots_at hss hoj
        rcases hds2 with ⟨h1, h2⟩ | ⟨h1, h2⟩
        · have e3 : s2 = s := Option.some.inj (h1.symm.trans hj)
          subst e3
          have hju := hU j hLj
          rw [List.getElem?_map, hs2] at hju
          exact eval_in a0 ss vs j s2 _ hnd hl hs2 (by rw [hn]; exact h2) hju
        · have : (none : Option Nat) = some s := h1.symm.trans hj
          cases this
    have hwant : o.guard = none → Region.wanted o (yielded ops (putAll a0 ss vs).tmps) = true := fun h => by simp [Region.wanted, h]
    have hZb : ∀ j, (Y j ∨ A j) → w0.heap.size ≤ j ∧ j < w.heap.size := fun j h => h.elim (hY j) (fun h => ⟨(hAb j h).1, (hAb j h).2.1⟩)
    have hout : ∀ t, t ∉ ss → (putAll a0 ss vs).eval (.tmp t) = a0.eval (.tmp t) := fun t ht => eval_out _ _ _ _ ht
    have hsz : ∀ s, s < n → s < (putAll a0 ss vs).tmps.size := fun t ht => by rw [putAll_size, hn]; exact ht
    have hnc : ∀ {p : Nat}, c.contains i = false → ∀ j, c[j]? = some p → ¬ p = i := fun hci j hp e => by
      subst e
      have : _ ∈ c := List.mem_of_getElem? hp
      simp [this] at hci
    unfold StepQ at hst
    by_cases hci : c.contains i = true
    · -- one of the chain
      obtain ⟨k', hk'⟩ := List.getElem?_of_mem (show i ∈ c by simpa using hci)
      have hkt := hGk k' hk'
      subst hkt
      have hdrop : c.drop t.length = i :: c.drop (t.length + 1) := by
        have hl2 := (List.getElem?_eq_some_iff.1 hk').1
        rw [List.drop_eq_getElem_cons hl2, (List.getElem?_eq_some_iff.1 hk').2]
      have hch := hC w (Mod.refl _ _)
      rw [hdrop] at hch
      refine wpOp_mono ?_ (hch (fun j => Y j ∨ A j) (putAll a0 ss vs) (fun j h => Or.inl h) hZb hout hsz (fun o' ho' e he hb s' hs' => by
        rw [ho] at ho'
        cases ho'
        exact hpred e he hb s' hs') hpre)
      rintro a' w' ⟨o', v, ho', rfl, hm', hv, hnext⟩
      rw [ho] at ho'
      cases ho'
      have hna : ∀ r ∈ al, r.a ≠ i ∧ r.s ≠ i := fun r hr => ⟨fun e => (by have := (hac2 r hr).1; rw [e, hci] at this; cases this), fun e => (by have := (hac2 r hr).2; rw [e, hci] at this; cases this)⟩
      have hmz : Mod (fun j => (j < w0.heap.size ∧ S0 j) ∨ (w0.heap.size ≤ j ∧ (Y j ∨ A j))) w w' := hm'.mono fun j _ h => h.elim (fun h => Or.inl ⟨h.1, hSS _ _ h.2⟩) (fun h => Or.inr ⟨(hY j h).1, Or.inl h⟩)
      refine ⟨vs.set i v, hput v, by simpa using hl, fun j => Y j ∨ (w.heap.size ≤ j ∧ j < w'.heap.size), A, t ++ [v], hmod.trans hm' (fun j _ h => h.elim (fun h => Or.inl ⟨h.1, hSS _ _ h.2⟩) (fun h => Or.inr (hY j h).1)), (Mod.trans (hmod0.mono (fun j _ h => h.elim (fun ⟨h1, k, h2, h3⟩ => Or.inl ⟨h1, k, (by rw [List.length_append]; omega), h3⟩) Or.inr)) hm' (fun j _ h => h.elim (fun h => Or.inl ⟨h.1, t.length, (by simp), h.2⟩) (fun h => Or.inr (hY j h).1))), hLn, hDn, ?_, fun j p hj hp => ?_, fun j p hj hp => ?_,
        (fun j h => h.elim (fun h => ⟨(hY j h).1, Nat.lt_of_lt_of_le (hY j h).2 hm'.size⟩) (fun h => ⟨Nat.le_trans hmod.size h.1, h.2⟩)), (fun j h => ⟨(hAb j h).1, Nat.lt_of_lt_of_le (hAb j h).2.1 hm'.size, fun hn => hn.elim (hAb j h).2.2 (fun hn => by have := (hAb j h).2.1; omega)⟩),
        ?_, fun p u hp hu => ?_, hA.other hna (fun _ h => h) (Or.inr ⟨v, rfl⟩) (fun q cc T hq hcs => hcs.mod hm' (fun h => h.elim (fun h => by have := (hAb q hq).1; omega) (hAb q hq).2.2)), hUn v⟩
      · rw [List.length_append]
        have := (List.getElem?_eq_some_iff.1 hk').1
        simp; omega
      · unfold upd
        by_cases e : p = i
        · rw [if_pos e]
        · rw [if_neg e]
          refine hk1 j p ?_ hp
          rw [List.length_append] at hj
          simp at hj
          by_cases e2 : j = t.length
          · subst e2
            rw [hk'] at hp
            exact absurd (Option.some.inj hp).symm e
          · omega
      · rw [List.length_append] at hj
        simp at hj
        unfold upd
        have e : ¬ p = i := fun e => by subst e; have := hGk j hp; omega
        rw [if_neg e]
        exact hk2 j p (by omega) hp
      · intro w'' h''
        rw [List.length_append]
        exact hnext w'' h''
      · by_cases e : p = i
        · subst e
          rw [List.getElem?_set_self', List.getElem?_eq_getElem hlt] at hu
          simp at hu
          subst hu
          exact hv _
        · rw [List.getElem?_set_ne (Ne.symm e)] at hu
          unfold upd at hp
          rw [if_neg e] at hp
          exact (AllQ.get l stable p).on _ _ _ _ _ _ _ (hV p u hp hu) hmz (fun j h => h.elim (fun h => h.elim (fun h => Or.inl (Or.inl h)) (fun h => Or.inr h.1)) (fun h => Or.inl (Or.inr h))) (Or.inr ⟨v, rfl⟩)
    rw [if_neg hci] at hst
    have hci' : c.contains i = false := by simpa using hci
    by_cases hma : ∃ r ∈ al, r.a = i
    · -- a new variable is made
      obtain ⟨r, hr, rfl⟩ := hma
      rw [fa r hr] at hst
      obtain ⟨m0, m1, m2, m5⟩ := hst
      obtain ⟨info, hi, hz⟩ := (show ∃ info, P.info? r.T = some info ∧ info.zero = some (.agg r.z.toArray) by
        cases hq : P.info? r.T with
        | none => rw [hq] at m2; cases m2
        | some i => rw [hq] at m2; exact ⟨i, rfl, m2⟩)
      have hrun : (execOp (putAll a0 ss vs).eval o).run P w = .ok (.value (.pointer (some ⟨w.heap.size, 0, none⟩))) (w.alloc (.cells r.z.toArray r.T)) := ex_alloc (P := P) (a := putAll a0 ss vs) (w := w) m1 hi hz
      have hmal : Mod (fun _ => False) w (w.alloc (.cells r.z.toArray r.T)) := (Mod.refl _ _).alloc _
      have hsza : (w.alloc (.cells r.z.toArray r.T)).heap.size = w.heap.size + 1 := by simp
      refine wpOp_step ho fun K' hK' => ?_
      rw [if_pos (hwant m0)]
      unfold Oper.wp
      rw [hrun]
      refine hK' _ _ ⟨vs.set r.a _, hput _, by simpa using hl, Y, fun j => A j ∨ j = w.heap.size, t, hmod.trans hmal (fun _ _ h => h.elim), (hmod0.trans hmal (fun _ _ h => h.elim)), hLn, hDn, hkl, fun j p hj hp => ?_, fun j p hj hp => ?_,
        (fun j h => ⟨(hY j h).1, by have := (hY j h).2; omega⟩), (fun j h => ?_), (fun w'' h => hC w'' (((Mod.refl _ w).alloc _).trans h (fun _ _ h => h))), fun p u hp hu => ?_, ⟨fun r' hr' hL' => ?_, fun r1 hr1 r2 hr2 hne h1 h2 => ?_⟩, hUn _⟩
      · unfold upd; rw [if_neg (hnc hci' j hp)]; exact hk1 j p hj hp
      · unfold upd; rw [if_neg (hnc hci' j hp)]; exact hk2 j p hj hp
      · rcases h with h | rfl
        · have := hAb j h
          exact ⟨this.1, by omega, this.2.2⟩
        · exact ⟨hmod.size, by omega, fun h => by have := (hY _ h).2; omega⟩
      · by_cases e : p = r.a
        · subst e; exact (hga r hr _ _ _ _).1
        · rw [List.getElem?_set_ne (Ne.symm e)] at hu
          unfold upd at hp
          rw [if_neg e] at hp
          exact (AllQ.get l stable p).on _ _ _ _ _ _ _ (hV p u hp hu) (hmal.mono fun _ _ h => h.elim) (fun j h => h.elim (fun h => Or.inl (Or.inl h)) (fun h => h.elim (fun h => Or.inl (Or.inr h)) (fun h => Or.inr (by omega)))) (Or.inl rfl)
      · have hs1 : upd L r.a r'.s = L r'.s := by unfold upd; rw [if_neg (fun e => hu3 r hr r' hr' e.symm)]
        by_cases e : r'.a = r.a
        · obtain rfl := hu1 r' hr' r hr e
          refine ⟨w.heap.size, by simp [hlt], Or.inr rfl, ?_, ?_⟩ <;> rw [hs1]
          all_goals
            have hls0 : L r'.s = false := by
              cases hls : L r'.s with
              | false => rfl
              | true =>
                have hos : ∃ o', ops[r'.s]? = some o' := by
                  cases hq : ops[r'.s]? with
                  | some o' => exact ⟨o', rfl⟩
                  | none => exact absurd hls (by rw [hLout r'.s (by simpa using hq)]; decide)
                obtain ⟨o', ho'⟩ := hos
                have h9 := Each.get _ 0 step r'.s o' (by simpa using ho')
                rw [Nat.zero_add] at h9
                unfold StepQ at h9
                rw [if_neg (by rw [(hac2 r' hr').2]; decide), fas r' hr', fs r' hr'] at h9
                obtain ⟨-, sa, y, -, -, -, hcl, -⟩ := h9
                have := clo_done hD _ _ (fun x hx => hD r'.s hls x hx) r'.a (by simpa using hcl)
                rw [hL] at this
                cases this
            rw [hls0]
          · exact Cs.new _ _ _
          · intro h; cases h
        · have hL2 : L r'.a = true := by unfold upd at hL'; rwa [if_neg e] at hL'
          obtain ⟨q, e1, e2, e3, e4⟩ := hA.at_ r' hr' hL2
          refine ⟨q, by rw [List.getElem?_set_ne (Ne.symm e)]; exact e1, Or.inl e2, ?_, ?_⟩ <;> rw [hs1]
          · exact e3.alloc _
          · exact e4
      · have key : ∀ r' ∈ al, r'.a ≠ r.a → L r'.a = true → vs[r'.a]? ≠ some (.pointer (some ⟨w.heap.size, 0, none⟩)) := by
          intro r' hr' hne' hL' he
          obtain ⟨q, e1, e2, e3, _⟩ := hA.at_ r' hr' hL'
          rw [e1] at he
          have := e3.lt
          cases he
          omega
        by_cases e1 : r1.a = r.a
        · have e2 : r2.a ≠ r.a := fun e => hne (e1.trans e.symm)
          rw [e1, List.getElem?_set_self hlt, List.getElem?_set_ne (Ne.symm e2)]
          unfold upd at h2
          rw [if_neg e2] at h2
          exact fun he => key r2 hr2 e2 h2 he.symm
        · by_cases e2 : r2.a = r.a
          · rw [e2, List.getElem?_set_self hlt, List.getElem?_set_ne (Ne.symm e1)]
            unfold upd at h1
            rw [if_neg e1] at h1
            exact key r1 hr1 e1 h1
          · rw [List.getElem?_set_ne (Ne.symm e1), List.getElem?_set_ne (Ne.symm e2)]
            unfold upd at h1 h2
            rw [if_neg e1] at h1
            rw [if_neg e2] at h2
            exact hA.ne r1 hr1 r2 hr2 hne h1 h2
    by_cases hsa : ∃ r ∈ al, r.s = i
    · -- a new variable is written
      obtain ⟨r, hr, rfl⟩ := hsa
      rw [fas r hr, fs r hr] at hst
      obtain ⟨m0, sa, y, hsl, hsn, hop, hcl, hval⟩ := hst
      have hLa : L r.a = true := clo_done hD _ _ (fun x hx => haf x hx) r.a (by simpa using hcl)
      obtain ⟨q, e1, e2, e3, _⟩ := hA.at_ r hr hLa
      rw [if_neg (by rw [hL]; decide)] at e3
      obtain ⟨hrk, hy, hlen, hone⟩ := hval (fun j => Y j ∨ A j) t (putAll a0 ss vs) w hmod hout hsz hpred hpre
      have hoa : ∃ oa, ops[r.a]? = some oa := by
        cases hq : ops[r.a]? with
        | some o' => exact ⟨o', rfl⟩
        | none => rw [hq] at hsl; cases hsl
      obtain ⟨oa, hoa⟩ := hoa
      have h9 := Each.get _ 0 step r.a oa (by simpa using hoa)
      rw [Nat.zero_add] at h9
      unfold StepQ at h9
      rw [if_neg (by rw [(hac2 r hr).1]; decide), fa r hr] at h9
      obtain ⟨-, -, -, hisz⟩ := h9
      have hev : (putAll a0 ss vs).eval (.tmp sa) = .pointer (some ⟨q, 0, none⟩) := by
        rw [hoa] at hsl
        obtain ⟨s2, hs2, hds2⟩ := okSlots_at hss hoa
        rcases hds2 with ⟨h1, h2⟩ | ⟨h1, h2⟩
        · have e3 : s2 = sa := Option.some.inj (h1.symm.trans hsl)
          subst e3
          exact eval_in a0 ss vs r.a s2 _ hnd hl hs2 (by rw [hn]; exact h2) e1
        · have : (none : Option Nat) = some sa := h1.symm.trans hsl
          cases this
      have hrun := ex_storeA (P := P) hop e3 (off := 0) (vs := r.c (t.take r.k)) (by rw [hisz, hlen]) hone (by simp [hlen]) hev hy
      rw [lay_whole _ _ (by simp [hlen])] at hrun
      have hmst : Mod (fun k => k = q) w (w.setRow q (r.c (t.take r.k)).toArray) := setRow_Mod
      have hqb := hAb q e2
      have hmy : Mod (fun j => w0.heap.size ≤ j ∧ ¬ Y j) w (w.setRow q (r.c (t.take r.k)).toArray) := hmst.mono fun k _ h => by subst h; exact ⟨hqb.1, hqb.2.2⟩
      refine wpOp_step ho fun K' hK' => ?_
      rw [if_pos (hwant m0)]
      unfold Oper.wp
      rw [hrun]
      refine hK' _ _ ⟨vs.set r.s _, hput _, by simpa using hl, Y, A, t, hmod.trans hmy (fun j _ h => Or.inr h.1), (hmod0.trans hmy (fun j _ h => Or.inr h.1)), hLn, hDn, hkl, fun j p hj hp => ?_, fun j p hj hp => ?_,
        (fun j h => ⟨(hY j h).1, Nat.lt_of_lt_of_le (hY j h).2 hmst.size⟩), (fun j h => ⟨(hAb j h).1, Nat.lt_of_lt_of_le (hAb j h).2.1 hmst.size, (hAb j h).2.2⟩), (fun w'' h => hC w'' (hmy.trans h (fun _ _ h => h))), fun p u hp hu => ?_, ⟨fun r' hr' hL' => ?_, fun r1 hr1 r2 hr2 hne h1 h2 => ?_⟩, hUn _⟩
      · unfold upd; rw [if_neg (hnc hci' j hp)]; exact hk1 j p hj hp
      · unfold upd; rw [if_neg (hnc hci' j hp)]; exact hk2 j p hj hp
      · by_cases e : p = r.s
        · subst e; exact (hga r hr _ _ _ _).2
        · rw [List.getElem?_set_ne (Ne.symm e)] at hu
          unfold upd at hp
          rw [if_neg e] at hp
          exact (AllQ.get l stable p).on _ _ _ _ _ _ _ (hV p u hp hu) (hmst.mono fun k _ h => by subst h; exact Or.inr ⟨hqb.1, Or.inr e2⟩) (fun j h => Or.inl h) (Or.inl rfl)
      · have ha1 : r'.a ≠ r.s := hu3 r' hr' r hr
        have hL2 : L r'.a = true := by unfold upd at hL'; rwa [if_neg ha1] at hL'
        obtain ⟨q', e1', e2', e3', e4'⟩ := hA.at_ r' hr' hL2
        refine ⟨q', by rw [List.getElem?_set_ne (Ne.symm ha1)]; exact e1', e2', ?_, ?_⟩
        · by_cases e : r'.s = r.s
          · obtain rfl := hu2 r' hr' r hr e
            rw [e1] at e1'
            cases e1'
            unfold upd
            rw [if_pos rfl, if_pos rfl]
            exact setRow_Cs e3
          · have : upd L r.s r'.s = L r'.s := by unfold upd; rw [if_neg e]
            rw [this]
            have hq : q' ≠ q := by
              rintro rfl
              refine hA.ne r' hr' r hr (fun ea => ?_) hL2 hLa (by rw [e1', e1])
              obtain rfl := hu1 r' hr' r hr ea
              exact e rfl
            exact e3'.mod hmst hq
        · intro h
          by_cases e : r'.s = r.s
          · obtain rfl := hu2 r' hr' r hr e
            exact hrk
          · unfold upd at h
            rw [if_neg e] at h
            exact e4' h
      · have a1 : r1.a ≠ r.s := hu3 r1 hr1 r hr
        have a2 : r2.a ≠ r.s := hu3 r2 hr2 r hr
        rw [List.getElem?_set_ne (Ne.symm a1), List.getElem?_set_ne (Ne.symm a2)]
        unfold upd at h1 h2
        rw [if_neg a1] at h1
        rw [if_neg a2] at h2
        exact hA.ne r1 hr1 r2 hr2 hne h1 h2
    -- beside the chain
    have na : al.find? (fun r => r.a == i) = none := by
      rw [List.find?_eq_none]
      intro r hr h
      exact hma ⟨r, hr, by simpa using h⟩
    have ns : al.find? (fun r => r.s == i) = none := by
      rw [List.find?_eq_none]
      intro r hr h
      exact hsa ⟨r, hr, by simpa using h⟩
    rw [na, ns] at hst
    refine wpOp_mono ?_ (hst (fun j => Y j ∨ A j) t (putAll a0 ss vs) w hZb hmod hmod0 hout hsz hpred hub hpre)
    rintro a' w' ⟨v, rfl, he, hv⟩
    have hmy : Mod (fun j => w0.heap.size ≤ j ∧ ¬ Y j) w w' := he.mod (fun j h => Or.inl h)
    refine ⟨vs.set i v, hput v, by simpa using hl, Y, A, t, hmod.trans hmy (fun j _ h => Or.inr h.1), (hmod0.trans hmy (fun j _ h => Or.inr h.1)), hLn, hDn, hkl, fun j p hj hp => ?_, fun j p hj hp => ?_,
      (fun j h => ⟨(hY j h).1, Nat.lt_of_lt_of_le (hY j h).2 he.size⟩), (fun j h => ⟨(hAb j h).1, Nat.lt_of_lt_of_le (hAb j h).2.1 he.size, (hAb j h).2.2⟩), (fun w'' h => hC w'' (hmy.trans h (fun _ _ h => h))), fun p u hp hu => ?_,
      hA.other (fun r hr => ⟨fun e => hma ⟨r, hr, e⟩, fun e => hsa ⟨r, hr, e⟩⟩) (fun _ h => h) (Or.inl rfl) (fun q cc T hq hcs => ?_), hUn v⟩
    · unfold upd; rw [if_neg (hnc hci' j hp)]; exact hk1 j p hj hp
    · unfold upd; rw [if_neg (hnc hci' j hp)]; exact hk2 j p hj hp
    · by_cases e : p = i
      · subst e
        rw [List.getElem?_set_self', List.getElem?_eq_getElem hlt] at hu
        simp at hu
        subst hu
        exact hv
      · rw [List.getElem?_set_ne (Ne.symm e)] at hu
        unfold upd at hp
        rw [if_neg e] at hp
        exact (AllQ.get l stable p).env _ _ _ _ _ (hV p u hp hu) he
    · rcases he.block q hcs.lt with h | ⟨-, h, -⟩
      · exact h.trans hcs
      · exact absurd (Or.inr hq) h
  · rintro L vs w hL hl ⟨Y, A, t, hmod, hmod0, hLout, hD, hkl, hk1, hk2, hY, hAb, hC, hV, hA, hU⟩
    have hk : t.length = c.length := by
      rcases Nat.lt_or_ge t.length c.length with h | h
      · have h1 := hk2 t.length c[t.length] (Nat.le_refl _) (List.getElem?_eq_getElem h)
        rw [hL c[t.length] (by simpa using List.all_eq_true.1 hcs _ (List.getElem_mem h))] at h1
        cases h1
      · omega
    have hsl : ss.length = ops.size := by
      unfold okSlots at hss
      rw [Bool.and_eq_true] at hss
      simpa using hss.1
    have h0 := hC w (Mod.refl _ _)
    rw [List.drop_of_length_le (by omega)] at h0
    refine h0 vs hl ⟨fun j => Y j ∨ A j, (fun j h => Or.inl h), (fun j h => h.elim (hY j) (fun h => ⟨(hAb j h).1, (hAb j h).2.1⟩)), fun p v hv => hV p v (hL p (by have := (List.getElem?_eq_some_iff.1 hv).1; omega)) hv⟩ (fun r hr => ?_) (fun r hr r' hr' hne => hA.ne r hr r' hr' hne (hL _ (hals r hr).1) (hL _ (hals r' hr').1))
    obtain ⟨q, e1, e2, e3, _⟩ := hA.at_ r hr (hL _ (hals r hr).1)
    rw [if_pos (hL _ (hals r hr).2)] at e3
    exact ⟨q, e1, (hAb q e2).1, (hAb q e2).2.2, e3⟩

theorem Mod.two {S S' : Nat → Prop} {a b c : World} (h : Mod S a b) (k : Mod S' b c) : Mod (fun j => S j ∨ S' j) a c :=
  ⟨k.os.trans h.os, k.tape.trans h.tape, k.output.trans h.output, Nat.le_trans h.size k.size, fun i hi hn => (k.block i (Nat.lt_of_lt_of_le hi h.size) (fun hS => hn (Or.inr hS))).trans (h.block i hi (fun hS => hn (Or.inl hS)))⟩
theorem Mod.after {S : Nat → Prop} {a b c : World} (h : Mod (fun _ => False) a b) (k : Mod S b c) : Mod S a c := (h.mono (fun _ _ h => h.elim)).trans k (fun _ _ h => h)
variable {SS : Nat → Nat → Prop} {k : Nat} {a0 : Act} {w0 : World} {n : Nat} {ss : List Nat} {l : List QPred} {al : List QRow} {i : Nat} {c : List Nat} {o : Oper} {a : Act} {v : Value}
theorem QChain.nil (h : ∀ vs, vs.length = ss.length → (∃ Z : Nat → Prop, (∀ j, Y j → Z j) ∧ (∀ j, Z j → B ≤ j ∧ j < w.heap.size) ∧ ∀ p v, vs[p]? = some v → (l.getD p qa) Z t v w) →
      (∀ r ∈ al, ∃ q, vs[r.a]? = some (.pointer (some ⟨q, 0, none⟩)) ∧ B ≤ q ∧ ¬ Y q ∧ Cs w q (r.c (t.take r.k)).toArray r.T) → (∀ r ∈ al, ∀ r' ∈ al, r.a ≠ r'.a → vs[r.a]? ≠ vs[r'.a]?) → Q .normal (putAll a0 ss vs) w) : QChain P ops Q a0 n ss B S0 SS l al [] k Y t w := h
/-- what one of the chain leaves -/
def QPost (P : Program) (ops : Array Oper) (Q : Exit → Act → World → Prop) (a0 : Act) (n : Nat) (ss : List Nat) (B : Nat) (S0 : Nat → Prop) (SS : Nat → Nat → Prop) (l : List QPred) (al : List QRow) (i : Nat) (c : List Nat) (k : Nat) (Y : Nat → Prop) (t : List Value) (w : World) (v : Value) (w' : World) : Prop :=
  Mod (fun j => (j < B ∧ SS k j) ∨ Y j) w w' ∧ (∀ Z, (l.getD i qa) Z (t ++ [v]) v w') ∧
    ∀ w'', Mod (fun j => B ≤ j ∧ ¬ (Y j ∨ (w.heap.size ≤ j ∧ j < w'.heap.size))) w' w'' → QChain P ops Q a0 n ss B S0 SS l al c (k + 1) (fun j => Y j ∨ (w.heap.size ≤ j ∧ j < w'.heap.size)) (t ++ [v]) w''
theorem QChain.cons (ho : ops[i]? = some o) (h : ∀ Z a, (∀ j, Y j → Z j) → (∀ j, Z j → B ≤ j ∧ j < w.heap.size) → (∀ t, t ∉ ss → a.eval (.tmp t) = a0.eval (.tmp t)) → (∀ s, s < n → s < a.tmps.size) →
      (∀ e ∈ o.after, Region.binds .any e = true → ∀ s, (ops[e.on]?).bind (·.dst) = some s → (l.getD e.on qa) Z t (a.eval (.tmp s)) w) →
      (∀ j s, (ops[j]?).bind (·.dst) = some s → (clo ops ops.size (afterOf ops j)).contains i = true → a.eval (.tmp s) = a0.eval (.tmp s)) → 
      wpOp P ops Q i (fun a' w' => ∃ v, a' = a.put o.dst v ∧ QPost P ops Q a0 n ss B S0 SS l al i c k Y t w v w') a w) : QChain P ops Q a0 n ss B S0 SS l al (i :: c) k Y t w := by
  intro Z a h1 h2 h3 h4 h5 h6
  refine wpOp_mono ?_ (h Z a h1 h2 h3 h4 (fun e he hb s hs => h5 o ho e he hb s hs) h6)
  rintro a' w' ⟨v, h7, h8, h9, h10⟩
  exact ⟨o, v, ho, h7, h8, h9, h10⟩
theorem stepq_chain (h : c.contains i = true) : StepQ P ops Q a0 w0 n ss S0 SS l c al i o := by unfold StepQ; rw [if_pos h]; trivial
theorem stepq_make (h : c.contains i = false) {r : QRow} (hr : al.find? (fun r => r.a == i) = some r) (hm : MakesQ P r o) : StepQ P ops Q a0 w0 n ss S0 SS l c al i o := by
  unfold StepQ; rw [if_neg (by rw [h]; decide), hr]; exact hm
theorem stepq_write (h : c.contains i = false) (h0 : al.find? (fun r => r.a == i) = none) {r : QRow} (hr : al.find? (fun r => r.s == i) = some r) (hm : WritesQ ops a0 w0 n ss S0 l r i o) : StepQ P ops Q a0 w0 n ss S0 SS l c al i o := by
  unfold StepQ; rw [if_neg (by rw [h]; decide), h0, hr]; exact hm
theorem stepq_env (h : c.contains i = false) (h0 : al.find? (fun r => r.a == i) = none) (h1 : al.find? (fun r => r.s == i) = none)
    (hs : ∀ (Z : Nat → Prop) t a w, (∀ j, Z j → w0.heap.size ≤ j ∧ j < w.heap.size) → Mod (fun j => (j < w0.heap.size ∧ S0 j) ∨ w0.heap.size ≤ j) w0 w → Mod (fun j => (j < w0.heap.size ∧ ∃ k, k < t.length ∧ SS k j) ∨ w0.heap.size ≤ j) w0 w → (∀ t, t ∉ ss → a.eval (.tmp t) = a0.eval (.tmp t)) → (∀ s, s < n → s < a.tmps.size) →
        (∀ e ∈ o.after, Region.binds .any e = true → ∀ s, (ops[e.on]?).bind (·.dst) = some s → (l.getD e.on qa) Z t (a.eval (.tmp s)) w) → (∀ k q, c[k]? = some q → (clo ops ops.size (afterOf ops q)).contains i = true → t.length ≤ k) → (∀ j s, (ops[j]?).bind (·.dst) = some s → (clo ops ops.size (afterOf ops j)).contains i = true → a.eval (.tmp s) = a0.eval (.tmp s)) → 
        wpOp P ops Q i (QJ w0.heap.size l Z i o t a w) a w) : StepQ P ops Q a0 w0 n ss S0 SS l c al i o := by
  unfold StepQ; rw [if_neg (by rw [h]; decide), h0, h1]; exact hs
theorem qe_run (ho : ops[i]? = some o) (hw : Region.wanted o (yielded ops a.tmps) = true) (hr : (execOp a.eval o).run P w = .ok (.value v) w') (hm : QE B Z w w') (hv : (l.getD i qa) Z t v w') : wpOp P ops Q i (QJ B l Z i o t a w) a w := by
  refine wpOp_step ho fun K' hK' => ?_
  rw [if_pos hw]
  unfold Oper.wp
  rw [hr]
  exact hK' _ _ ⟨v, rfl, hm, hv⟩
theorem qe_skip (ho : ops[i]? = some o) (hw : Region.wanted o (yielded ops a.tmps) = false) (hv : (l.getD i qa) Z t undef w) : wpOp P ops Q i (QJ B l Z i o t a w) a w := by
  refine wpOp_step ho fun K' hK' => ?_
  rw [if_neg (by rw [hw]; decide)]
  exact hK' _ _ ⟨undef, rfl, QE.refl, hv⟩
theorem qe_call (ho : ops[i]? = some o) (hw : Region.wanted o (yielded ops a.tmps) = true) {f : FuncId} {args : Array Value} {post : Ending → World → Prop} (hr : (execOp a.eval o).run P w = .ok (.enter f args) w) (hcl : Calls P f args w post)
    (hp : ∀ e w', post e w' → ∃ v, e = .returned v ∧ QE B Z w w' ∧ (l.getD i qa) Z t v w') : wpOp P ops Q i (QJ B l Z i o t a w) a w := by
  refine wpOp_step ho fun K' hK' => ?_
  rw [if_pos hw]
  unfold Oper.wp
  rw [hr]
  exact hcl.mono fun e w' he => by
    obtain ⟨v, rfl, h1, h2⟩ := hp e w' he
    exact hK' _ _ ⟨v, rfl, h1, h2⟩
/-- an operation that is done only where a test says so -/
theorem qe_guard {b : Bool} (ho : ops[i]? = some o) (hw : Region.wanted o (yielded ops a.tmps) = b) {p : QPred} (hp : l.getD i qa = qc b p)
    (h1 : b = true → ∀ l', l'.getD i qa = p → wpOp P ops Q i (QJ B l' Z i o t a w) a w) : wpOp P ops Q i (QJ B l Z i o t a w) a w := by
  cases b with
  | false => exact qe_skip ho hw (by rw [hp]; exact ⟨(fun h => by cases h), fun _ => rfl⟩)
  | true =>
    have h2 := h1 rfl (List.replicate i qa ++ [p]) (by simp [List.getD])
    refine wpOp_mono ?_ h2
    rintro a' w' ⟨v, h3, h4, h5⟩
    refine ⟨v, h3, h4, ?_⟩
    rw [hp]
    refine ⟨fun _ => ?_, fun h => by cases h⟩
    simpa [List.getD] using h5
theorem qc_run {KQ : Value → World → Prop} (ho : ops[i]? = some o) (hw : Region.wanted o (yielded ops a.tmps) = true) (hr : (execOp a.eval o).run P w = .ok (.value v) w') (h : KQ v w') : wpOp P ops Q i (fun a' w' => ∃ v, a' = a.put o.dst v ∧ KQ v w') a w := by
  refine wpOp_step ho fun K' hK' => ?_
  rw [if_pos hw]
  unfold Oper.wp
  rw [hr]
  exact hK' _ _ ⟨v, rfl, h⟩
theorem qc_call {KQ : Value → World → Prop} (ho : ops[i]? = some o) (hw : Region.wanted o (yielded ops a.tmps) = true) {f : FuncId} {args : Array Value} {post : Ending → World → Prop} (hr : (execOp a.eval o).run P w = .ok (.enter f args) w) (hcl : Calls P f args w post)
    (hp : ∀ e w', post e w' → ∃ v, e = .returned v ∧ KQ v w') : wpOp P ops Q i (fun a' w' => ∃ v, a' = a.put o.dst v ∧ KQ v w') a w := by
  refine wpOp_step ho fun K' hK' => ?_
  rw [if_pos hw]
  unfold Oper.wp
  rw [hr]
  exact hcl.mono fun e w' he => by
    obtain ⟨v, rfl, h1⟩ := hp e w' he
    exact hK' _ _ ⟨v, rfl, h1⟩
/-- a literal's row is made -/
theorem ql_new {T8 : TypeId} {C : Array Value} (hB : B ≤ w.heap.size) (hZ : ∀ j, Z j → B ≤ j ∧ j < w.heap.size) : ql B T8 C Z t (.slice (some ⟨w.heap.size, 0, none⟩) C.size C.size) (w.alloc (.cells C T8)) :=
  ⟨_, rfl, hB, (fun h => Nat.lt_irrefl _ (hZ _ h).2), (0, 0), heap_alloc_new _ _⟩
theorem and_val {A B' : Bool} {u : Value} (h : A = true → u = .bool B') : (if A = true then u else .bool false) = .bool (A && B') := by
  cases A with
  | true => simp [h rfl]
  | false => rfl
end
end Go.Gv

/- Elements of slices: their addresses, appending one that has many cells. No program here. -/
set_option linter.unusedVariables false
namespace Go.Gv
open Go Go.RowKit

section
variable {P : Program} {o : Oper} {a : Act} {w w' : World}
theorem ex_idxS {T e : TypeId} {x y : Operand} {g off n cap i s : Nat} {k : IntKind} (ho : o.op = .indexAddr T x y) (hu : P.underlying T = some (.slice e)) (hs : (P.info? e).map (·.size) = some s) (hx : a.eval x = .slice (some ⟨g, off, none⟩) n cap) (hy : a.eval y = .int k (i : Int)) (hi : i < n) :
    (execOp a.eval o).run P w = .ok (.value (.pointer (some ⟨g, off + i * s, none⟩))) w := by
  have hsz : (sizeOf e).run P w = .ok s w := by
    cases hq : P.info? e with
    | none => rw [hq] at hs; cases hs
    | some i => rw [hq] at hs; simp [sizeOf, typeInfo, hq]; exact Option.some.inj hs
  unfold execOp
  simp [ho, hx, hy, Instr.indexAt, asIntOf, run_underlying hu, hsz, hi, add_mk]
theorem ex_append {t : TypeId} {x y : Operand} {vx vy v : Value} (ho : o.op = .call { callee := .builtin .append, args := #[x, y], argTypes := #[t, t] }) (hx : a.eval x = vx) (hy : a.eval y = vy) (hr : (Builtin.append_ #[t, t] o.type #[vx, vy]).run P w = .ok v w') : (execOp a.eval o).run P w = .ok (.value v) w' := by
  unfold execOp
  simp only [ho, resolve, invoke, builtin, Sem.run_bind, Sem.run_pure, Result.andThen_ok, List.map_toArray, List.map_cons, List.map_nil, hx, hy, hr]
end
end Go.Gv

/- Arithmetic of single operations; elements of arrays. No program here. -/
set_option linter.unusedVariables false
namespace Go.Gv
open Go Go.RowKit

section
variable {P : Program} {o : Oper} {a : Act} {w w' : World} {t : TypeId} {k : IntKind}
theorem ex_convI {src dst : TypeId} {x : Operand} {k k' : IntKind} {n : Int} (ho : o.op = .convert src dst x) (hs : (P.underlying src).isSome = true) (hd : P.underlying dst = some (.int k')) (hx : a.eval x = .int k n) : (execOp a.eval o).run P w = .ok (.value (.int k' (k'.wrap n))) w := by
  unfold execOp
  cases hq : P.underlying src with
  | none => rw [hq] at hs; cases hs
  | some d => simp [ho, hx, convert, run_underlying hd, run_underlying hq, Conv.intToInt]
end
end Go.Gv

/- Single operations for wp_region_Q: calls of function values, parts of results, slices' rows, appends of things. No program here. -/
set_option linter.unusedVariables false
namespace Go.Gv
open Go Go.RowKit

section
variable {P : Program} {ops : Array Oper} {Q : Exit → Act → World → Prop} {i : Nat} {o : Oper} {a : Act} {w : World} {KQ : Value → World → Prop}
theorem ex_binE {op : BinOp} {t u : TypeId} {x y : Operand} {vx vy v v' : Value} (ho : o.op = .binOp op t x y u) (hx : a.eval x = vx) (hy : a.eval y = vy) (hg : (eqGuard op t x y vx vy).run P w = .ok () w) (hr : (binOp op t vx vy).run P w = .ok v w) (he : v = v') : (execOp a.eval o).run P w = .ok (.value v') w := by
  subst he; exact ex_bin ho hx hy hg hr
theorem ex_pickE {c x y : Operand} {b : Bool} {vx vy v : Value} (ho : o.op = .pick c x y) (hc : a.eval c = .bool b) (hx : a.eval x = vx) (hy : a.eval y = vy) (he : (if b then vx else vy) = v) : (execOp a.eval o).run P w = .ok (.value v) w := by
  subst he; exact ex_pick ho hc hx hy
theorem ex_convIE {src dst : TypeId} {x : Operand} {k k' : IntKind} {n m : Int} (ho : o.op = .convert src dst x) (hs : (P.underlying src).isSome = true) (hd : P.underlying dst = some (.int k')) (hx : a.eval x = .int k n) (he : k'.wrap n = m) : (execOp a.eval o).run P w = .ok (.value (.int k' m)) w := by
  subst he; exact ex_convI ho hs hd hx
theorem add_zero (a : Addr) : a.add 0 = a := by
  unfold Addr.add
  split <;> simp_all
theorem ex_sliceTo {T e : TypeId} {x y : Operand} {ao : Option Addr} {n cap i : Nat} {s : Nat} {k : IntKind} (ho : o.op = .slice T x none (some y) none) (hu : P.underlying T = some (.slice e)) (hs : (P.info? e).map (·.size) = some s) (hx : a.eval x = .slice ao n cap) (hy : a.eval y = .int k (i : Int)) (hi : i ≤ cap) :
    (execOp a.eval o).run P w = .ok (.value (.slice ao i cap)) w := by
  have hsz : (sizeOf e).run P w = .ok s w := by
    cases hq : P.info? e with
    | none => rw [hq] at hs; cases hs
    | some i => rw [hq] at hs; simp [sizeOf, typeInfo, hq]; exact Option.some.inj hs
  have hm : (if cap = 0 then ao else ao.map (·.add (0 * s))) = ao := by
    split
    · rfl
    · cases ao with
      | none => rfl
      | some x => simp [add_zero]
  have hm2 : ao.map (fun x => x.add 0) = ao := by cases ao with | none => rfl | some x => simp [add_zero]
  unfold execOp
  simp [ho, hx, hy, Instr.sliceAt, Instr.slice, Instr.sliceBounds, Instr.sliceBound, asIntOf, run_underlying hu, hsz, hi]
  intro h0
  exact hm2
/-- one of the chain appends things -/
theorem qc_appS {α : Type} {A : Rep α} {e t : TypeId} {R E R2 : Nat → Prop} {v xv : Value} {l new : List α} {s x : Operand} (ho : ops[i]? = some o) (hw : Region.wanted o (yielded ops a.tmps) = true) (hop : o.op = .call { callee := .builtin .append, args := #[s, x], argTypes := #[t, t] }) (z : Value) (bytes : Nat)
    (ht : P.underlying t = some (.slice e)) (hinfo : (P.info? e).map (fun i => (i.zero, i.size, i.bytes)) = some (some z, A.sz, bytes)) (hzs : z.cells.size = A.sz) (hzE : ∀ u ∈ z.cells.toList, u.oneCell' = true)
    (hs : a.eval s = v) (hx : a.eval x = xv) (hown : OwS A e R E w v l) (hrd : RdS A R2 w xv new) (hd : ∀ k, R2 k → R k → False) (hbytes : (l.length + new.length) * bytes ≤ 140737488355328) (h63 : l.length + new.length ≤ maxLen)
    (h : ∀ ao cap w', OwS A e (fun k => R k ∨ (w.heap.size ≤ k ∧ k < w'.heap.size)) (fun k => E k ∨ R2 k) w' (.slice ao (l.length + new.length) cap) (l ++ new) → Mod R w w' → KQ (.slice ao (l.length + new.length) cap) w') : wpOp P ops Q i (fun a' w' => ∃ v, a' = a.put o.dst v ∧ KQ v w') a w := by
  obtain ⟨ao, cap, w', hr, h1, h2⟩ := run_appS (P := P) w t o.type e z bytes ht hinfo hzs hzE hown hrd (fun k hk he => by obtain ⟨_, _, _, _, h5⟩ := hown; exact hd k hk (h5 k he)) hbytes h63
  exact qc_run ho hw (ex_append hop hs hx hr) (h ao cap w' h1 h2)
end
end Go.Gv

/- Short forms for printed walks: facts carried over a whole chain at once, single operations, regions without new variables. No program here. -/
set_option linter.unusedVariables false
namespace Go.Gv
open Go Go.RowKit

theorem hid {p : Prop} (h : p) : Hid p := h
/-- a chain's steps, told at once: S: what of old they may turn -/
theorem Mod.new {S : Nat → Prop} {w a : World} (h : Mod (fun j => w.heap.size ≤ j) w a) : Mod S w a := h.mono fun k hk h => absurd hk (Nat.not_lt.2 h)
theorem Mod.goR {S R : Nat → Prop} {w a c : World} (h : Mod S w a) (hr : Mod (fun j => w.heap.size ≤ j ∧ R j) a c) : Mod S w c :=
  h.trans hr fun k hk h => absurd hk (Nat.not_lt.2 h.1)
theorem Mod.goM {S T R : Nat → Prop} {w a b c : World} (h : Mod S w a) (hm : Mod T a b) (hr : Mod (fun j => w.heap.size ≤ j ∧ R j) b c) (hs : ∀ k, k < w.heap.size → T k → S k) : Mod S w c :=
  (h.trans hm hs).goR hr
theorem Mod.go {S R : Nat → Prop} {w a b c : World} (h : Mod S w a) (hm : Mod (fun _ => False) a b) (hr : Mod (fun j => w.heap.size ≤ j ∧ R j) b c) : Mod S w c :=
  h.goM hm hr fun _ _ h => h.elim
theorem Mod.old {w a : World} (h : Mod (fun j => (j < w.heap.size ∧ False) ∨ w.heap.size ≤ j) w a) : Mod (fun j => w.heap.size ≤ j) w a := h.mono fun _ _ h => h.elim (fun h => h.2.elim) (fun h => h)
theorem chv {v x : Value} (h : some v = some x) : x = v := (Option.some.inj h).symm
theorem list_eta {vs : List Value} {n : Nat} (hl : vs.length = n) : vs = (List.range n).map fun i => vs.getD i undef := by
  subst hl
  refine List.ext_getElem? fun i => ?_
  rcases Nat.lt_or_ge i vs.length with h | h
  · simp [List.getD_eq_getElem?_getD, h]
  · simp [h]
theorem getq {vs : List Value} {n p : Nat} (hl : vs.length = n) (h : p < n) : vs[p]? = some (vs.getD p undef) := by
  subst hl
  simp [List.getD_eq_getElem?_getD, h]
theorem getv {vs : List Value} {p : Nat} {v : Value} (h : vs[p]? = some v) : vs.getD p undef = v := by
  rw [List.getD_eq_getElem?_getD, h]
  rfl
section
variable {β : Type} {f : Operand → β}
theorem args0 : (#[] : Array Operand).map f = #[] := by simp
theorem args1 {x1 : Operand} {a1 : β} (h1 : f x1 = a1) : #[x1].map f = #[a1] := by rw [← h1]; simp
theorem args2 {x1 x2 : Operand} {a1 a2 : β} (h1 : f x1 = a1) (h2 : f x2 = a2) : #[x1, x2].map f = #[a1, a2] := by rw [← h1, ← h2]; simp
end
section
variable {P : Program} {ops : Array Oper} {Q : Exit → Act → World → Prop} {a0 : Act} {w0 : World} {n : Nat} {ss : List Nat} {S0 : Nat → Prop} {SS : Nat → Nat → Prop} {l : List QPred} {c : List Nat} {al : List QRow} {i : Nat} {o : Oper}
/-- what is known where an operation beside the chain stands -/
structure StE (ops : Array Oper) (a0 : Act) (w0 : World) (n : Nat) (ss : List Nat) (S0 : Nat → Prop) (SS : Nat → Nat → Prop) (l : List QPred) (c : List Nat) (i : Nat) (o : Oper) (Z : Nat → Prop) (t : List Value) (a : Act) (w : World) : Prop where
  inZ : ∀ j, Z j → w0.heap.size ≤ j ∧ j < w.heap.size
  m : Mod (fun j => (j < w0.heap.size ∧ S0 j) ∨ w0.heap.size ≤ j) w0 w
  m0 : Mod (fun j => (j < w0.heap.size ∧ ∃ k, k < t.length ∧ SS k j) ∨ w0.heap.size ≤ j) w0 w
  out : ∀ t, t ∉ ss → a.eval (.tmp t) = a0.eval (.tmp t)
  sz : ∀ s, s < n → s < a.tmps.size
  on : ∀ e ∈ o.after, Region.binds .any e = true → ∀ s, (ops[e.on]?).bind (·.dst) = some s → (l.getD e.on qa) Z t (a.eval (.tmp s)) w
  ub : ∀ k q, c[k]? = some q → (clo ops ops.size (afterOf ops q)).contains i = true → t.length ≤ k
  pre : ∀ j s, (ops[j]?).bind (·.dst) = some s → (clo ops ops.size (afterOf ops j)).contains i = true → a.eval (.tmp s) = a0.eval (.tmp s)
theorem StE.v {Z : Nat → Prop} {t : List Value} {a : Act} {w : World} (E : StE ops a0 w0 n ss S0 SS l c i o Z t a w) {k : Nat} {v : Value} (h : a0.eval (.tmp k) = v) (hk : k ∉ ss := by decide) : a.eval (.tmp k) = v := (E.out k hk).trans h
theorem StE.e {Z : Nat → Prop} {t : List Value} {a : Act} {w : World} (E : StE ops a0 w0 n ss S0 SS l c i o Z t a w) (k : Nat) (g : Ground) {s : Nat} (h : (⟨k, g⟩ : Edge) ∈ o.after := by simp) (hb : Region.binds .any ⟨k, g⟩ = true := by rfl) (hs : (ops[k]?).bind (·.dst) = some s := by rfl) : (l.getD k qa) Z t (a.eval (.tmp s)) w := E.on ⟨k, g⟩ h hb s hs
theorem StE.d {Z : Nat → Prop} {t : List Value} {a : Act} {w : World} (E : StE ops a0 w0 n ss S0 SS l c i o Z t a w) (k : Nat) {s : Nat} (h : (⟨k, .data⟩ : Edge) ∈ o.after := by simp) (hs : (ops[k]?).bind (·.dst) = some s := by rfl) : (l.getD k qa) Z t (a.eval (.tmp s)) w := E.on ⟨k, .data⟩ h rfl s hs
/-- where one of the chain stands -/
structure ChE (ops : Array Oper) (a0 : Act) (n : Nat) (ss : List Nat) (B : Nat) (l : List QPred) (i : Nat) (o : Oper) (Y : Nat → Prop) (Z : Nat → Prop) (t : List Value) (a : Act) (w : World) : Prop where
  YZ : ∀ j, Y j → Z j
  inZ : ∀ j, Z j → B ≤ j ∧ j < w.heap.size
  out : ∀ t, t ∉ ss → a.eval (.tmp t) = a0.eval (.tmp t)
  sz : ∀ s, s < n → s < a.tmps.size
  on : ∀ e ∈ o.after, Region.binds .any e = true → ∀ s, (ops[e.on]?).bind (·.dst) = some s → (l.getD e.on qa) Z t (a.eval (.tmp s)) w
  pre : ∀ j s, (ops[j]?).bind (·.dst) = some s → (clo ops ops.size (afterOf ops j)).contains i = true → a.eval (.tmp s) = a0.eval (.tmp s)
theorem ChE.v {B : Nat} {Y Z : Nat → Prop} {t : List Value} {a : Act} {w : World} (E : ChE ops a0 n ss B l i o Y Z t a w) {k : Nat} {v : Value} (h : a0.eval (.tmp k) = v) (hk : k ∉ ss := by decide) : a.eval (.tmp k) = v := (E.out k hk).trans h
theorem ChE.e {B : Nat} {Y Z : Nat → Prop} {t : List Value} {a : Act} {w : World} (E : ChE ops a0 n ss B l i o Y Z t a w) (k : Nat) (g : Ground) {s : Nat} (h : (⟨k, g⟩ : Edge) ∈ o.after := by simp) (hb : Region.binds .any ⟨k, g⟩ = true := by rfl) (hs : (ops[k]?).bind (·.dst) = some s := by rfl) : (l.getD k qa) Z t (a.eval (.tmp s)) w := E.on ⟨k, g⟩ h hb s hs
theorem ChE.d {B : Nat} {Y Z : Nat → Prop} {t : List Value} {a : Act} {w : World} (E : ChE ops a0 n ss B l i o Y Z t a w) (k : Nat) {s : Nat} (h : (⟨k, .data⟩ : Edge) ∈ o.after := by simp) (hs : (ops[k]?).bind (·.dst) = some s := by rfl) : (l.getD k qa) Z t (a.eval (.tmp s)) w := E.on ⟨k, .data⟩ h rfl s hs
theorem QChain.go {B : Nat} {Y : Nat → Prop} {k : Nat} {t : List Value} {w : World} (h : ∀ Z a, ChE ops a0 n ss B l i o Y Z t a w → wpOp P ops Q i (fun a' w' => ∃ v, a' = a.put o.dst v ∧ QPost P ops Q a0 n ss B S0 SS l al i c k Y t w v w') a w) (ho : ops[i]? = some o := by rfl) : QChain P ops Q a0 n ss B S0 SS l al (i :: c) k Y t w :=
  QChain.cons ho fun Z a h1 h2 h3 h4 h5 h6 => h Z a ⟨h1, h2, h3, h4, h5, h6⟩
theorem stq {v : Value} (hs : ∀ {Z : Nat → Prop} {t : List Value} {a : Act} {w : World}, StE ops a0 w0 n ss S0 SS l c i o Z t a w → (execOp a.eval o).run P w = .ok (.value v) w) (ho : ops[i]? = some o := by rfl) (hg : o.guard = none := by rfl) (hv : l.getD i qa = qi v := by rfl)
    (h : c.contains i = false := by rfl) (h0 : al.find? (fun r => r.a == i) = none := by rfl) (h1 : al.find? (fun r => r.s == i) = none := by rfl) : StepQ P ops Q a0 w0 n ss S0 SS l c al i o :=
  stepq_env h h0 h1 fun Z t a w k1 k2 k3 k4 k5 k6 k7 k8 => qe_run ho (wanted_none hg) (hs ⟨k1, k2, k3, k4, k5, k6, k7, k8⟩) QE.refl (by rw [hv]; rfl)
def gw (vs : List Value) (i : Nat) : Value := vs.getD i undef
theorem gw_eta {vs : List Value} {n : Nat} (hl : vs.length = n) : vs = (List.range n).map fun i => gw vs i := list_eta hl
theorem fvi {Z : Nat → Prop} {t : List Value} {w : World} {vs : List Value} {m : Nat} {x : Value} (hV : ∀ p v, vs[p]? = some v → (l.getD p qa) Z t v w) (hl : vs.length = m) (p : Nat) (hp : p < m := by decide) (he : l.getD p qa = qi x := by rfl) : gw vs p = x := by
  have h := hV p _ (getq hl hp)
  rw [he] at h
  exact h
theorem fvc {Z : Nat → Prop} {t : List Value} {w : World} {vs : List Value} {m k : Nat} {x : Value} (hV : ∀ p v, vs[p]? = some v → (l.getD p qa) Z t v w) (hl : vs.length = m) (p : Nat) (hp : p < m := by decide) (he : l.getD p qa = qv k := by rfl) (hx : t[k]? = some x := by rfl) : gw vs p = x := by
  have h := hV p _ (getq hl hp)
  rw [he] at h
  exact (Option.some.inj (hx.symm.trans h)).symm
/-- a region without new variables -/
theorem wp_region_Q1 {d : Bool} {id : Nat} (n : Nat) (hn : a0.tmps.size = n) (ss : List Nat)
    (S0 : Nat → Prop) (SS : Nat → Nat → Prop) (hSS : ∀ k j, SS k j → S0 j) (l : List QPred) (stable : AllQ w0.heap.size S0 l) (c : List Nat)
    (step : Each (StepQ P ops Q a0 w0 n ss S0 SS l c []) 0 ops.toList)
    (start : ∀ w1, Mod (fun j => w0.heap.size ≤ j) w0 w1 → QChain P ops Q a0 n ss w0.heap.size S0 SS l [] c 0 (fun _ => False) [] w1)
    (hm : P.follows .mixedOrders = true := by kernel_rfl) (hac : backward ops = true := by kernel_rfl) (hss : okSlots ops n ss = true := by kernel_rfl) (hnd : ss.Nodup := by decide) (hlk : linked ops c = true := by kernel_rfl) (hcn : c.Nodup := by decide) (hcs : (c.all fun i => decide (i < ops.size)) = true := by kernel_rfl) : (Code.region id ops d).wp P Q a0 w0 :=
  wp_region_Q n hn hm hac ss hss hnd S0 SS hSS l stable c hlk hcn hcs [] rfl (fun r hr => by cases hr) (fun r hr => by cases hr) (fun r hr => by cases hr) step start
/-- one that turns nothing of old -/
theorem wp_region_Q0 {d : Bool} {id : Nat} (n : Nat) (hn : a0.tmps.size = n) (ss : List Nat) (l : List QPred) (stable : AllQ w0.heap.size (fun _ => False) l) (c : List Nat)
    (step : Each (StepQ P ops Q a0 w0 n ss (fun _ => False) (fun _ _ => False) l c []) 0 ops.toList)
    (start : ∀ w1, Mod (fun j => w0.heap.size ≤ j) w0 w1 → QChain P ops Q a0 n ss w0.heap.size (fun _ => False) (fun _ _ => False) l [] c 0 (fun _ => False) [] w1)
    (hm : P.follows .mixedOrders = true := by kernel_rfl) (hac : backward ops = true := by kernel_rfl) (hss : okSlots ops n ss = true := by kernel_rfl) (hnd : ss.Nodup := by decide) (hlk : linked ops c = true := by kernel_rfl) (hcn : c.Nodup := by decide) (hcs : (c.all fun i => decide (i < ops.size)) = true := by kernel_rfl) : (Code.region id ops d).wp P Q a0 w0 :=
  wp_region_Q1 n hn ss _ _ (fun _ _ h => h) l stable c step start hm hac hss hnd hlk hcn hcs
theorem qc_callF {KQ : Value → World → Prop} {a : Act} {w : World} {F : FuncId} {xs : Array Operand} {ts : Array TypeId} {args : Array Value} {post : Ending → World → Prop} {fn : Func} (ho : ops[i]? = some o) (hw : Region.wanted o (yielded ops a.tmps) = true) (hop : o.op = .call { callee := .value (.func F), args := xs, argTypes := ts })
    (hf : P.funcs[F]? = some fn) (ha : xs.map a.eval = args) (hcl : Calls P F args w post) (hp : ∀ e w', post e w' → ∃ v, e = .returned v ∧ KQ v w') (hn : (fn.name == "runtime.NumGoroutine") = false := by kernel_rfl) (hb : fn.body.isNone = false := by kernel_rfl) : wpOp P ops Q i (fun a' w' => ∃ v, a' = a.put o.dst v ∧ KQ v w') a w :=
  qc_call ho hw (by rw [ex_callF hop hf hn hb, ha]) hcl hp
theorem qe_callF {B : Nat} {Z : Nat → Prop} {t : List Value} {a : Act} {w : World} {F : FuncId} {xs : Array Operand} {ts : Array TypeId} {args : Array Value} {post : Ending → World → Prop} {fn : Func} (ho : ops[i]? = some o) (hw : Region.wanted o (yielded ops a.tmps) = true) (hop : o.op = .call { callee := .value (.func F), args := xs, argTypes := ts })
    (hf : P.funcs[F]? = some fn) (ha : xs.map a.eval = args) (hcl : Calls P F args w post) (hp : ∀ e w', post e w' → ∃ v, e = .returned v ∧ QE B Z w w' ∧ (l.getD i qa) Z t v w') (hn : (fn.name == "runtime.NumGoroutine") = false := by kernel_rfl) (hb : fn.body.isNone = false := by kernel_rfl) : wpOp P ops Q i (QJ B l Z i o t a w) a w :=
  qe_call ho hw (by rw [ex_callF hop hf hn hb, ha]) hcl hp
end
end Go.Gv

/- gavelref01.join: bytes, one behind the other; a region that joins what calls answer. -/
set_option maxRecDepth 100000
set_option linter.unusedVariables false
namespace Go.Gv
open Go Go.RowKit
section
variable {P : Program} {o : Oper} {a : Act} {w w' : World}
/-- a row of slices is made -/
theorem ex_buildSl {ts T : TypeId} {n : Nat} {parts : Array (Nat × Operand)} (ho : o.op = .buildSlice ts n parts) (hu : P.underlying ts = some (.slice T)) (hie : (P.info? T).map (fun i => (i.size, i.zero)) = some (1, some (.slice none 0 0))) (hn : n ≠ 0 ∧ n ≤ 1000) {C : Array Value}
    (hf : Instr.fill (fun i => some (i * 1, 1)) ((Array.range (n * 1)).map (#[Value.slice none 0 0][· % 1]!)) (parts.map fun (i, x) => (i, a.eval x)).toList = some C) :
    (execOp a.eval o).run P w = .ok (.value (.slice (some ⟨w.heap.size, 0, none⟩) n n)) (w.alloc (.cells C T)) := by
  cases hq : P.info? T with
  | none => rw [hq] at hie; cases hie
  | some ie =>
    rw [hq] at hie
    have e := Option.some.inj hie
    have e1 : ie.size = 1 := congrArg Prod.fst e
    have e2 : ie.zero = some (.slice none 0 0) := congrArg Prod.snd e
    have hr := run_buildSlice (P := P) w ts T n (parts.map fun (i, x) => (i, a.eval x)) C ie (.slice none 0 0) hu hq e2 (by rw [e1]; omega) (by rw [e1]; omega) (by rw [e1]; exact hf)
    unfold execOp
    simp only [ho, Sem.run_bind, hr, Result.andThen_ok, Sem.run_pure]
end
/-- marks turn no cell -/
theorem Marked.cell {B : Nat} {T8 : TypeId} {w w' : World} (hm : Marked B T8 w w') {p : Addr} {u : Value} (h : w.cell? p = some u) : w'.cell? p = some u := by
  have hlt := World.block_lt_of_cell? _ _ h
  rcases hm.block p.block hlt with h1 | ⟨-, C, m, h1, h2⟩
  · exact (World.cell?_of_block h1).trans h
  · unfold World.cell? at h ⊢
    rw [h1] at h
    rw [h2]
    exact h
theorem Rd.cells {s n : Nat} {w w' : World} {v : Value} {cs : List Value} (h : Rd s w v n cs) (hc : ∀ p u, w.cell? p = some u → w'.cell? p = some u) : Rd s w' v n cs := by
  obtain ⟨hl, ao, cap, rfl, h1, h2, h3, h4⟩ := h
  exact ⟨hl, ao, cap, rfl, h1, h2, h3, fun x hx j u hu => ⟨(h4 x hx j u hu).1, hc _ _ (h4 x hx j u hu).2⟩⟩
theorem Rd.old {s n : Nat} {w : World} {v : Value} {cs : List Value} (hs : 0 < s) (h : Rd s w v n cs) (h0 : 0 < n) : ∀ g, v.ownBlock = some g → g < w.heap.size := by
  rcases h.form hs with ⟨rfl, _⟩ | ⟨g, o, cap, _, rfl, _, _, hl, hc⟩
  · omega
  · intro g' hg
    have e : g = g' := by simpa [Value.ownBlock] using hg
    subst e
    have hlt : 0 < cs.length := by rw [hl]; exact Nat.mul_pos h0 hs
    exact World.block_lt_of_cell? _ _ (hc 0 _ (List.getElem?_eq_getElem hlt))
end Go.Gv
namespace Go.Proofs.Ytfgepphankfbfaa
open Go Go.RowKit Go.Gv

theorem RdB.cells {w w' : World} {v : Value} {bs : List Int} (h : RdB w v bs) (hc : ∀ p u, w.cell? p = some u → w'.cell? p = some u) : RdB w' v bs := ⟨h.1, h.2.cells hc⟩
/-- rows of bytes: the outer list, and each row where it lies -/
structure RdJ (w : World) (v : Value) (rs : List (Value × List Int)) : Prop where
  o : Rd 1 w v rs.length (rs.map (·.1))
  f : ∀ p ∈ rs, RdB w p.1 p.2
theorem RdJ.cells {w w' : World} {v : Value} {rs : List (Value × List Int)} (h : RdJ w v rs) (hc : ∀ p u, w.cell? p = some u → w'.cell? p = some u) : RdJ w' v rs := ⟨h.o.cells hc, fun p hp => (h.f p hp).cells hc⟩
theorem RdJ.shape {w : World} {v : Value} {rs : List (Value × List Int)} (h : RdJ w v rs) : ∃ ao cap, v = .slice ao rs.length cap := by
  obtain ⟨_, ao, cap, e, _⟩ := h.o
  exact ⟨ao, cap, e⟩
theorem RdJ.at {w : World} {ao : Option Addr} {n cap : Nat} {rs : List (Value × List Int)} (h : RdJ w (.slice ao n cap) rs) {i : Nat} (hi : i < rs.length) :
    ∃ g o, ao = some ⟨g, o, none⟩ ∧ g < w.heap.size ∧ w.cell? ⟨g, o + i, none⟩ = some rs[i].1 := by
  rcases h.o.form (by decide) with ⟨h0, _⟩ | ⟨g, o, cap', h0, hv, h1, h2, hl, hc⟩
  · omega
  · simp only [Value.slice.injEq] at hv
    obtain ⟨rfl, rfl, rfl⟩ := hv
    exact ⟨g, o, rfl, h.o.old (by decide) h0 g rfl, hc i _ (by simp [List.getElem?_eq_getElem hi])⟩
/-- a new outer list -/
theorem RdJ.new {w : World} {e : TypeId} {rs : List (Value × List Int)} (h : ∀ p ∈ rs, RdB w p.1 p.2) (hl : rs.length ≤ 1000) {C : Array Value} (hC : C = (rs.map (·.1)).toArray) {n : Nat} (hn : n = rs.length) : RdJ (w.alloc (.cells C e)) (.slice (some ⟨w.heap.size, 0, none⟩) n n) rs := by
  subst hC
  subst hn
  refine ⟨Rd.mk (Nat.le_refl _) (by rw [maxLen_val]; omega) (by simp) fun j y hy => ?_, fun p hp => (h p hp).alloc _⟩
  rw [Nat.zero_add, (Cs.new w _ e).cell]
  simpa using hy
def flat (rs : List (Value × List Int)) : List Int := (rs.map (·.2)).flatten
theorem litG.rd {B K : Nat} {bs : List Int} {t : List Value} {v : Value} {w : World} (h : litG B 5 K (bs.map bv).toArray t v w) (hk : t.length ≤ K) (hb : Bytes bs) (hl : bs.length ≤ 1000000) : RdB w v bs := by
  obtain ⟨g, rfl, -, m, -, h4⟩ := h hk
  have e : (bs.map bv).toArray.size = bs.length := by simp
  rw [e]
  refine ⟨hb, Rd.mk (Nat.le_refl _) (by rw [maxLen_val]; omega) (by simp) fun j y hy => ?_⟩
  rw [Nat.zero_add]
  simp only [World.cell?, h4]
  simpa using hy
theorem StillM.obj {B K k : Nat} {w w' : World} (h : StillM B 5 K k w w') {g : Nat} {c : Array Value} {e : TypeId} (hc : Cs w g c e) (he : e ≠ 5) : Cs w' g c e := by
  rcases h with h | ⟨-, h⟩
  · exact hc.mod h (fun h => h)
  · rcases h.block g hc.lt with h1 | ⟨-, C, m, h1, -⟩
    · exact h1.trans hc
    · unfold Cs at hc
      rw [hc] at h1
      cases h1
      exact absurd rfl he
end Go.Proofs.Ytfgepphankfbfaa

/- Bytes in regions told step by step: appends, rows of rows, strings as bytes, writers' ends. -/
set_option maxRecDepth 100000
set_option linter.unusedVariables false
namespace Go.Proofs.Ytfgepphankfbfaa
open Go Go.RowKit Go.Gv

section
variable {ops : Array Oper} {Q : Exit → Act → World → Prop} {i : Nat} {o : Oper} {a : Act} {w : World} {KQ : Value → World → Prop} {B : Nat} {S0 Z : Nat → Prop} {t : List Value} {l : List QPred}
/-- one of the chain appends bytes -/
theorem qc_appR {s x : Operand} {R R' : Nat → Prop} {N M : Nat} {v xv : Value} {bs new : List Int} (ho : ops[i]? = some o) (hw : Region.wanted o (yielded ops a.tmps) = true) (hop : o.op = .call { callee := .builtin .append, args := #[s, x], argTypes := #[22, 22] })
    (hs : a.eval s = v) (hx : a.eval x = xv) (hown : OwR R N w v bs) (hrd : RdR R' M w xv new) (hroom : (bs ++ new).length ≤ 900000)
    (h : ∀ ao cap w', OwR (fun k => R k ∨ New w w' k) 900000 w' (.slice ao (bs.length + new.length) cap) (bs ++ new) → Mod R w w' → KQ (.slice ao (bs.length + new.length) cap) w') : wpOp Try.prog ops Q i (fun a' w' => ∃ v, a' = a.put o.dst v ∧ KQ v w') a w := by
  obtain ⟨i0, hi, hz0, hz1, hz2⟩ := info_parts info_u8
  have hlen : bs.length + new.length ≤ 900000 := by simpa using hroom
  obtain ⟨ao, cap, w', hr, h1, h2, h3⟩ := run_append (P := Try.prog) w 22 o.type 5 i0 (.int .u8 0) 1 1 Try.underlying22 hi hz0 hz1 hz2 rfl (by decide) IsB_zero v _ _ hown.1 xv new.length (new.map bv) hrd.1.2 (isB_all hrd.1.1) (ints_oneCell .u8 new) (by omega) (by rw [maxLen_val]; omega)
  refine qc_run ho hw (ex_append hop hs hx hr) (h ao cap w' ⟨?_, (fun g hg => ?_), hroom⟩ (h2.mono (fun k _ hk => hown.2.1 k hk.symm)))
  · unfold OwnB
    rw [List.length_append, List.map_append]
    exact h1
  · rcases h3 with h3 | ⟨k, h3, hk⟩
    · exact .inl (hown.2.1 g (h3 ▸ hg))
    · rw [h3] at hg
      obtain rfl : k = g := by simpa using hg
      exact .inr ⟨hk, Own.lt h1 h3⟩
/-- one of the chain makes a row of rows -/
theorem qc_rows {ts : TypeId} {n : Nat} {parts : Array (Nat × Operand)} (ho : ops[i]? = some o) (hw : Region.wanted o (yielded ops a.tmps) = true) (hop : o.op = .buildSlice ts n parts) (hu : Try.prog.underlying ts = some (.slice 22)) (hn : n ≠ 0 ∧ n ≤ 1000) {C : Array Value}
    (hf : Instr.fill (fun i => some (i * 1, 1)) ((Array.range (n * 1)).map (#[Value.slice none 0 0][· % 1]!)) (parts.map fun (i, x) => (i, a.eval x)).toList = some C)
    (h : ∀ w', Cs w' w.heap.size C 22 → Mod (fun _ => False) w w' → KQ (.slice (some ⟨w.heap.size, 0, none⟩) n n) w') : wpOp Try.prog ops Q i (fun a' w' => ∃ v, a' = a.put o.dst v ∧ KQ v w') a w :=
  qc_run ho hw (ex_buildSl hop hu (by kernel_rfl) hn hf) (h _ (Cs.new _ _ _) ((Mod.refl _ _).alloc _))
theorem ql.rd {bs : List Int} {v : Value} (hb : Bytes bs) (h : ql B 5 (bs.map bv).toArray Z t v w) (hl : bs.length ≤ 1000000) : ∃ R : Nat → Prop, (∀ j, R j → B ≤ j ∧ ¬ Z j ∧ j < w.heap.size) ∧ RdR R bs.length w v bs := by
  obtain ⟨g, rfl, hB, hZ, m, h4⟩ := h
  have e : (bs.map bv).toArray.size = bs.length := by simp
  refine ⟨fun k => k = g, fun j hj => by subst hj; exact ⟨hB, hZ, (Array.getElem?_eq_some_iff.1 h4).1⟩, ⟨hb, ?_⟩, fun _ k hk => by cases hk; rfl, Nat.le_refl _⟩
  rw [e]
  refine Rd.mk (Nat.le_refl _) (by rw [maxLen_val]; omega) (by simp) fun j y hy => ?_
  rw [Nat.zero_add]
  simp only [World.cell?, h4]
  simpa using hy
end
end Go.Proofs.Ytfgepphankfbfaa

/- gavellaw02.wakes; bytes.Compare; sha.Less. -/
set_option maxRecDepth 100000
set_option linter.unusedVariables false
namespace Go.Proofs.Ytfgepphankfbfaa
open Go Go.RowKit Go.Gv

theorem sha_nil : shaF [] = [0xe3, 0xb0, 0xc4, 0x42, 0x98, 0xfc, 0x1c, 0x14, 0x9a, 0xfb, 0xf4, 0xc8, 0x99, 0x6f, 0xb9, 0x24, 0x27, 0xae, 0x41, 0xe4, 0x64, 0x9b, 0x93, 0x4c, 0xa4, 0x95, 0x99, 0x1b, 0x78, 0x52, 0xb8, 0x55] := by decide +kernel

theorem wakes02 (w : World) : Calls Try.prog 19 #[] w fun e w' => e = .returned (.bool true) ∧ Mod (fun _ => False) w w' := by
  obtain ⟨F, hF⟩ : ∃ F, F = shaF [] := ⟨_, rfl⟩
  have hFl : F.length = 32 := by rw [hF]; exact shaF_len []
  have HS := Lib.hid (show (Try.prog.info? 26).map (·.size) = some (F.map bv).length by rw [List.length_map, hFl]; exact size_hash)
  have HFT := Lib.hid (show 0 + (F.map bv).length ≤ 32 by simp [hFl])
  have K := Sum_any (.slice none 0 0) [] w (RdB.nil w) (by simp)
  rw [← hF] at K
  have HK := Lib.hid K
  have HFL := Lib.hid hFl
  rw [sha_nil] at hF
  have HF := Lib.hid hF
  clear K hFl hF
  go_enter Try.func19, Try.ntmps19
  go_wp2_with fail
  refine (HK.out).mono ?_
  rintro e w1 ⟨rfl, hm1⟩
  have HM1 := Lib.hid hm1
  have z1 := hm1.size
  clear hm1
  go_wp2_with ((with_reducible show wpList _ _ _ (Oper.mk none (Op.store 26 (.tmp 1) (.tmp 2)) _ _ _ _ :: _) _ _); go_must (refine wpList_storeA rfl 26 (.tmp 1) (.tmp 2) rfl (Cs.new _ _ _) (off := 0) (vs := F.map bv) HS.out (ints_oneCell .u8 _) HFT.out rfl rfl ?_))
  intro w2 hc2 hm2
  rw [lay_whole _ _ (by rw [List.length_map, HFL.out]; rfl)] at hc2
  have HM2 := Lib.hid (HM1.out.trans (((Mod.refl (fun _ => False) w1).alloc _).trans hm2 (by intro k h1 h2; (try dsimp only at h2); omega)) (fun _ _ h => h))
  have c0 : w2.cell? ⟨w1.heap.size, 0, none⟩ = some (.int .u8 227) := by rw [hc2.cell, HF.out]; rfl
  have c1 : w2.cell? ⟨w1.heap.size, 1, none⟩ = some (.int .u8 176) := by rw [hc2.cell, HF.out]; rfl
  have c2 : w2.cell? ⟨w1.heap.size, 2, none⟩ = some (.int .u8 196) := by rw [hc2.cell, HF.out]; rfl
  have c3 : w2.cell? ⟨w1.heap.size, 3, none⟩ = some (.int .u8 66) := by rw [hc2.cell, HF.out]; rfl
  clear hc2 hm2
  go_wp2
  go_ret
  exact ⟨rfl, HM2.out⟩

end Go.Proofs.Ytfgepphankfbfaa

/- gavelref01.turn; gavelref01.Sum: the same plain sum. -/
set_option maxRecDepth 100000
set_option linter.unusedVariables false
namespace Go.Proofs.Ytfgepphankfbfaa
open Go Go.RowKit Go.Gv

end Go.Proofs.Ytfgepphankfbfaa

/- As XVal3; besides: a slot that an operation reads ahead of the one that writes it. No program here. -/
set_option linter.unusedVariables false
namespace Go.Gv
open Go Go.RowKit

section
variable {P : Program} {ops : Array Oper} {Q : Exit → Act → World → Prop}
end
end Go.Gv

/- gavelref01.Sum: the same plain sum. -/
set_option maxRecDepth 100000
set_option linter.unusedVariables false
namespace Go.Proofs.Ytfgepphankfbfaa
open Go Go.RowKit Go.Gv

structure RefO (w0 : World) (gk gh : Nat) (h : List Int) (w : World) : Prop where
  k2 : Cs w w0.heap.size ((List.replicate 32 0).map bv).toArray 26
  kk : Ws 108 w gk K256
  kh : Ws 106 w gh h
  m : Mod (fun _ => False) w0 w
theorem RefO.mod {S : Nat → Prop} {w0 w w' : World} {gk gh : Nat} {h : List Int} (o : RefO w0 gk gh h w) (hm : Mod S w w') (h1 : ¬ S w0.heap.size) (h2 : ¬ S gk) (h3 : ¬ S gh) (h4 : ∀ k, k < w0.heap.size → ¬ S k) : RefO w0 gk gh h w' :=
  ⟨o.k2.mod hm h1, o.kk.mod hm h2, o.kh.mod hm h3, o.m.trans hm (fun k hk hs => h4 k hk hs)⟩
theorem RefO.still {w0 w w' : World} {gk gh : Nat} {h : List Int} (o : RefO w0 gk gh h w) (hm : Mod (fun _ => False) w w') : RefO w0 gk gh h w' := o.mod hm (fun h => h) (fun h => h) (fun h => h) (fun _ _ h => h)
def RsW (g : Nat) (T : TypeId) (z c : List Value) : Nat → List Value → World → Prop := fun k _ w => match k with
  | 0 => Cs w g z.toArray T
  | _ => Cs w g c.toArray T
theorem RsW_still {g : Nat} {T : TypeId} {z c : List Value} : ∀ k t w w', RsW g T z c k t w → Mod (fun _ => False) w w' → RsW g T z c k t w' := by
  intro k t w w' h hm
  match k, h with
  | 0, h => exact Cs.mod h hm (fun h => h)
  | k + 1, h => exact Cs.mod h hm (fun h => h)
end Go.Proofs.Ytfgepphankfbfaa

/- Lists of lists of bytes. -/
set_option maxRecDepth 100000
set_option linter.unusedVariables false
namespace Go.Proofs.Ytfgepphankfbfaa
open Go Go.RowKit Go.Gv Go.ChangeShapes Go.WideShapes Go.ChangeAt Go.Deep

structure Row01 where
  V : Value
  B : List Int
instance : Inhabited Row01 := ⟨⟨.slice none 0 0, []⟩⟩
def Row01.cells (a : Row01) : List Value := [a.V]
def Row01.Ok (W : World) (a : Row01) : Prop := RdR (fun k => k < W.heap.size) a.B.length W a.V a.B
theorem cells_bytes2 : Try.prog.cellsOf 22 = 1 := by kernel_rfl
theorem trod_row {H : Type} {enc : TypeId × Value → H} {W : World} (fuel : Nat) (cs : List Value) (x : DataW H × List MemPlace)
    (h : DataW.trod enc Try.prog W 0 (fun _ => true) true fuel 22 cs = some x) : ∃ a : Row01, cs = a.cells ∧ a.Ok W := by
  have hv : ∃ v, cs = [v] := by
    rcases open_ints Try.underlying22 Try.underlying5 (by kernel_rfl) h with ⟨hcs, _⟩ | ⟨x, len0, cap0, zs, hcs, _⟩
    · exact ⟨_, hcs⟩
    · exact ⟨_, hcs⟩
  obtain ⟨v, rfl⟩ := hv
  obtain ⟨bs, hb⟩ := trod_bytes h
  exact ⟨⟨v, bs⟩, rfl, hb⟩
abbrev RdL := @RdE Row01 1 Row01.cells
theorem rows_of_trod {H : Type} {enc : TypeId × Value → H} {W : World} {base : Nat} {v : Value} {d : DataW H} {p : List MemPlace} (hv : Value.okWide Try.prog W .any base 91 v)
    (h : DataW.Trod enc Try.prog W 0 (fun _ => true) true 91 v d p) : ∃ l : List Row01, RdL (fun k => k < W.heap.size) W v l ∧ ∀ a ∈ l, a.Ok W := by
  obtain ⟨a0, len0, cap0, rfl⟩ := okWide_slice Try.underlying91 hv
  obtain ⟨fuel, hf⟩ := h
  exact trod_list Row01.cells (Row01.Ok W) Try.underlying91 cells_bytes2 (by omega) (fun _ => rfl) trod_row hf

/-- rows, each where it lies -/
def RdF (R : Nat → Prop) (w : World) (rs : List (Value × List Int)) : Prop := ∀ p ∈ rs, RdR R 200 w p.1 p.2
section
variable {R R' S : Nat → Prop} {w w' : World} {rs : List (Value × List Int)}
theorem RdF.mod (h : RdF R w rs) (hm : Mod S w w') (hs : ∀ k, R k → S k → False) : RdF R w' rs := fun p hp => (h p hp).mod hm hs
theorem RdF.widen (h : RdF R w rs) (hs : ∀ k, R k → R' k) : RdF R' w rs := fun p hp => (h p hp).widen hs (Nat.le_refl _)
end
theorem OwV.cell {e : TypeId} {R : Nat → Prop} {N n cap g : Nat} {w : World} {cs : List Value} (h : OwV e R N w (.slice (some ⟨g, 0, none⟩) n cap) cs) : ∀ j u, cs[j]? = some u → w.cell? ⟨g, j, none⟩ = some u := by
  intro j u hu
  have hj : j < cs.length := (List.getElem?_eq_some_iff.1 hu).1
  obtain ⟨g', e', hc⟩ := h.at hj
  simp only [Option.some.injEq, Addr.mk.injEq, and_true] at e'
  subst e'
  exact hc j u hu
def rowsB (rs : List (Value × List Int)) : List Int := rs.flatMap fun p => encN p.2.length ++ p.2
end Go.Proofs.Ytfgepphankfbfaa

/- sha.Rows, gavelref01.Rows: a hash over rows. -/
set_option maxRecDepth 100000
set_option linter.unusedVariables false
namespace Go.Proofs.Ytfgepphankfbfaa
open Go Go.RowKit Go.Gv

/-- what a hash over rows is of -/
def rowsT (rs : List (Value × List Int)) : List Int := encN rs.length ++ rowsB rs
theorem rowsB_take (rs : List (Value × List Int)) (i : Nat) (h : i < rs.length) : rowsB (rs.take (i + 1)) = rowsB (rs.take i) ++ (encN rs[i].2.length ++ rs[i].2) := by
  unfold rowsB
  rw [List.take_succ_eq_append_getElem h, List.flatMap_append]
  simp
theorem rowsB_all (rs : List (Value × List Int)) : rowsB (rs.take rs.length) = rowsB rs := by rw [List.take_length]
theorem RdF.old {R : Nat → Prop} {w : World} {rs : List (Value × List Int)} (h : RdF R w rs) : RdF (fun k => k < w.heap.size) w rs := fun p hp => ⟨(h p hp).1, fun h0 => (h p hp).1.block_lt h0, (h p hp).2.2⟩
/-- rows: the outer list, and each row where it lies -/
structure RdRows (w : World) (v : Value) (rs : List (Value × List Int)) : Prop where
  o : Rd 1 w v rs.length (rs.map (·.1))
  f : RdF (fun k => k < w.heap.size) w rs
theorem RdRows.mod {w w' : World} {v : Value} {rs : List (Value × List Int)} {B : Nat} (h : RdRows w v rs) (hm : Mod (fun k => B ≤ k) w w') (hB : w.heap.size ≤ B) : RdRows w' v rs := by
  have h2 := h.f.mod hm (fun k h1 h2 => by omega)
  exact ⟨h.o.mod hm (fun h0 g hg hS => by have := h.o.old (by decide) h0 g hg; omega), h2.widen (fun k hk => Nat.lt_of_lt_of_le hk hm.size)⟩
theorem RdRows.still {w w' : World} {v : Value} {rs : List (Value × List Int)} (h : RdRows w v rs) (hm : Mod (fun _ => False) w w') : RdRows w' v rs := h.mod (B := w.heap.size) (hm.mono (fun _ _ h => h.elim)) (Nat.le_refl _)
theorem RdRows.shape {w : World} {v : Value} {rs : List (Value × List Int)} (h : RdRows w v rs) : ∃ ao cap, v = .slice ao rs.length cap := by
  obtain ⟨_, ao, cap, e, _⟩ := h.o
  exact ⟨ao, cap, e⟩
theorem RdRows.at {w : World} {ao : Option Addr} {n cap : Nat} {rs : List (Value × List Int)} (h : RdRows w (.slice ao n cap) rs) {i : Nat} (hi : i < rs.length) :
    ∃ g o, ao = some ⟨g, o, none⟩ ∧ g < w.heap.size ∧ w.cell? ⟨g, o + i, none⟩ = some rs[i].1 := by
  rcases h.o.form (by decide) with ⟨h0, _⟩ | ⟨g, o, cap', h0, hv, h1, h2, hl, hc⟩
  · omega
  · simp only [Value.slice.injEq] at hv
    obtain ⟨rfl, rfl, rfl⟩ := hv
    exact ⟨g, o, rfl, h.o.old (by decide) h0 g rfl, hc i _ (by simp [List.getElem?_eq_getElem hi])⟩

theorem encN_small (n : Nat) (h : n ≤ 1000000) : (encN n).length ≤ 10 := (encN_len10 (by unfold U64; omega)).2
theorem rowsB_len {R : Nat → Prop} {w : World} : ∀ {rs : List (Value × List Int)}, RdF R w rs → (rowsB rs).length ≤ 210 * rs.length
  | [], _ => by simp [rowsB]
  | p :: rs, h => by
    have h1 := rowsB_len (fun q hq => h q (List.mem_cons_of_mem _ hq) : RdF R w rs)
    have h2 := (h p (List.mem_cons_self)).2.2
    have h3 := encN_small p.2.length (by omega)
    unfold rowsB at h1 ⊢
    rw [List.flatMap_cons, List.length_append, List.length_append, List.length_cons]
    omega
theorem rowsT_len {R : Nat → Prop} {w : World} {rs : List (Value × List Int)} (h : RdF R w rs) (hn : rs.length ≤ 8) : (rowsT rs).length ≤ 900000 := by
  have h1 := rowsB_len h
  have h2 := encN_small rs.length (by omega)
  unfold rowsT
  rw [List.length_append]
  omega

set_option maxHeartbeats 4000000 in
theorem ShaRowsF_any (v : Value) (rs : List (Value × List Int)) (w : World) (h : RdRows w v rs) (hn : rs.length ≤ 8) :
    Calls Try.prog 35 #[v] w fun e w' => e = .returned (hv (shaF (rowsT rs))) ∧ Mod (fun _ => False) w w' := by
  have HR := Lib.hid h
  have HRL := Lib.hid (rowsT_len h.f hn)
  obtain ⟨ao, cap, rfl⟩ := h.shape
  clear h
  go_enter Try.func35, Try.ntmps35
  go_upto_region 1 with (fail)
  obtain ⟨w1, hw1⟩ : ∃ z, z = w.alloc (.cells ((List.replicate 32 0).map bv).toArray 26) := ⟨_, rfl⟩
  change Code.wp _ _ _ _ (w.alloc (.cells ((List.replicate 32 0).map bv).toArray 26))
  rw [← hw1]
  have K1 := Lib.hid (show Cs w1 w.heap.size ((List.replicate 32 0).map bv).toArray 26 by rw [hw1]; exact Cs.new _ _ _)
  have KM1 := Lib.hid (show Mod (fun _ => False) w w1 by rw [hw1]; exact (Mod.refl _ _).alloc _)
  have hs1 : w1.heap.size = w.heap.size + 1 := by rw [hw1]; simp
  have HR1 := Lib.hid (HR.out.still KM1.out)
  clear hw1 HR
  go_wp2_with fail
  refine (NewWriter_R _).mono ?_
  rintro e w2 ⟨b, rfl, hW2, hm2⟩
  have KW2 := Lib.hid hW2
  have KM2 := Lib.hid (show Mod (fun k => w1.heap.size ≤ k) w1 w2 from hm2.mono (fun _ _ h => h.elim))
  have z2 := hm2.size
  clear hW2 hm2
  go_wp2_with fail
  refine (WInt_R KW2.out (n := (rs.length : Int)) ⟨by omega, by omega⟩ (by decide)).mono ?_
  rintro e w3 ⟨rfl, hW3, hm3⟩
  rw [encI_nat] at hW3
  have KW3 := Lib.hid (show WrR (fun k => w1.heap.size ≤ k) (10 + 210 * 0) w3 b (encN rs.length ++ rowsB (rs.take 0)) from by
    have := hW3.widen (R' := fun k => w1.heap.size ≤ k) (fun k h => by unfold New at h; omega) (Nat.le_refl _)
    simpa [rowsB] using this)
  have KM3 := Lib.hid (show Mod (fun k => w1.heap.size ≤ k) w1 w3 from KM2.out.trans hm3 (fun k _ h => h.1))
  have z3 := hm3.size
  clear hW3 hm3 KM2 KW2
  go_wp2
  go_loopw [12] (fun t12 wr => ∃ (i : Nat), t12 = .int .i64 i ∧ i ≤ rs.length ∧ WrR (fun k => w1.heap.size ≤ k) (10 + 210 * i) wr b (encN rs.length ++ rowsB (rs.take i)) ∧ Mod (fun k => w1.heap.size ≤ k) w1 wr) (fun t12 _ => rs.length - (intOf t12).toNat)
  case atStart => exact ⟨0, rfl, by omega, KW3.out, KM3.out⟩
  case round =>
    obtain ⟨wi, rfl⟩ : ∃ x, x = wr := ⟨_, rfl⟩
    obtain ⟨i, rfl, hi, hW, hm⟩ := hrel
    have KW := Lib.hid hW
    have KM := Lib.hid hm
    have zi := hm.size
    clear hW hm KW3 KM3
    by_cases hlt : i < rs.length
    · obtain ⟨g, o, rfl, hg, hcell0⟩ := HR1.out.at hlt
      have hcell : wi.cell? ⟨g, o + i, none⟩ = some rs[i].1 := KM.out.cell hcell0 (by show ¬ w1.heap.size ≤ g; omega)
      have HRW := Lib.hid ((HR1.out.f rs[i] (List.getElem_mem hlt)).mod KM.out (fun k h1 h2 => by omega))
      have HT := Lib.hid (rowsB_take rs i hlt)
      have HSH := Lib.hid HRW.out.shape
      obtain ⟨q, hq⟩ : ∃ q, q = rs[i] := ⟨_, rfl⟩
      rw [← hq] at hcell HRW HT
      clear hcell0 HSH hq
      obtain ⟨vi, bi⟩ := q
      obtain ⟨ai, ci, rfl⟩ : ∃ ai ci, vi = .slice ai bi.length ci := HRW.out.shape
      try dsimp only at hcell HRW HT
      have hb200 := HRW.out.2.2
      try dsimp only at hb200
      go_wp2_with fail
      refine (WRow_R KW.out HRW.out (fun k h1 h2 => by omega) (by omega)).mono ?_
      rintro e w4 ⟨rfl, hW4, hm4⟩
      have KW4 := Lib.hid (show WrR (fun k => w1.heap.size ≤ k) (10 + 210 * (i + 1)) w4 b (encN rs.length ++ rowsB (rs.take (i + 1))) from by
        rw [HT.out, ← List.append_assoc]
        exact hW4.widen (R' := fun k => w1.heap.size ≤ k) (fun k h => by unfold New at h; omega) (by omega))
      have KM4 := Lib.hid (show Mod (fun k => w1.heap.size ≤ k) w1 w4 from KM.out.trans hm4 (fun k _ h => h))
      clear hW4 hm4 KW KM HT HRW hcell
      go_wp2
      go_roundw
      case rel => exact ⟨i + 1, by go_num, by omega, KW4.out, KM4.out⟩
      case measure => first | (simp [intOf]; done) | (simp [intOf]; omega)
    · obtain rfl : i = rs.length := by omega
      have KW9 := Lib.hid (show WrR (fun k => w1.heap.size ≤ k) (10 + 210 * rs.length) wi b (rowsT rs) from by have := KW.out; rw [rowsB_all] at this; exact this)
      have HWN := Lib.hid (show ∀ k, w1.heap.size ≤ k → k = w.heap.size → False from fun k h1 h2 => by omega)
      have HWL := Lib.hid (show 10 + 210 * rs.length ≤ 1000000 by omega)
      have HW := Lib.hid (show ByLen (RsW w.heap.size 26 ((List.replicate 32 0).map bv) ((shaF (rowsT rs)).map bv)) [] wi from K1.out.mod KM.out (fun h => by omega))
      have KMF := Lib.hid (KM1.out.trans KM.out (fun k h1 h2 => by omega))
      clear KW KM K1 KM1 HR1
      go_upto_region 7 with (fail)
      generalize ha0 : Act.mk _ _ = a0
      have oe2 : a0.eval (.tmp 2) = .pointer (some ⟨w.heap.size, 0, none⟩) := by rw [← ha0]; rfl
      have oe3 : a0.eval (.tmp 3) = .pointer (some ⟨b, 0, none⟩) := by rw [← ha0]; rfl
      have hsz0 : a0.tmps.size = 23 := by rw [← ha0]; rfl
      have HA0 := Lib.hid ha0
      clear ha0
      refine wp_region_G 23 hsz0 (by kernel_rfl) (by kernel_rfl) [20, 21, 22, 26] (by kernel_rfl) (by decide) (fun j => j = w.heap.size) (fun _ j => j = w.heap.size) (fun _ _ h => h) Still (fun _ _ _ h => h) (fun _ _ _ hm h => hm.trans h (fun _ _ h => h.elim)) [gi (.pointer (some ⟨b, 0, none⟩)), (fun t v w => t.length = 0 → RdB w v (rowsT rs)), gi (hv (shaF (rowsT rs))), ga] ⟨gi_stable, ⟨fun _ _ _ _ h hr h0 => (h h0).mod hr (fun _ _ _ h => h), fun _ _ _ _ _ _ _ h0 => by simp at h0⟩, gi_stable, ga_stable, trivial⟩ [3] (by kernel_rfl) (by decide) (by kernel_rfl) (ByLen (RsW w.heap.size 26 ((List.replicate 32 0).map bv) ((shaF (rowsT rs)).map bv))) (ByLen.still RsW_still) HW.out ⟨?_, ?_, ?_, ?_, trivial⟩ ?_
      · intro tr act w' hm hout hsz hd hG hk hub
        exact jg_run (by rfl) rfl (wanted_none rfl) (ex_move rfl ((hout 3 (by decide)).trans oe3)) (Mod.refl _ _) rfl
      · intro tr act w' hm hout hsz hd hG hk hub
        have h0 := hd ⟨0, .data⟩ (by simp) rfl _ rfl
        refine jg_call (args := #[.pointer (some ⟨b, 0, none⟩)]) (by rfl) rfl (wanted_none rfl) (by rw [ex_callF rfl Try.func60 (by kernel_rfl) (by kernel_rfl)]; exact congrArg (fun z => Result.ok (Next.enter _ z) _) (by simp only [List.map_toArray, List.map_cons, List.map_nil, show act.eval (.tmp 20) = _ from h0]; try rfl)) (WBytes_R (KW9.out.mod hm HWN.out) HWL.out) ?_
        rintro e w2 ⟨v', rfl, ho, hm2⟩
        exact ⟨v', rfl, hm2, fun _ => ho.1.rd⟩
      · intro tr act w' hm hout hsz hd hG hk hub
        have h1 := hd ⟨1, .data⟩ (by simp) rfl _ rfl
        have hrd := h1 (Nat.le_zero.1 (hub 0 3 rfl (by kernel_rfl)))
        refine jg_call (args := #[act.eval (.tmp 21)]) (by rfl) rfl (wanted_none rfl) (by rw [ex_callF rfl Try.func16 (by kernel_rfl) (by kernel_rfl)]; simp) (Sum_any _ (rowsT rs) _ hrd HRL.out) ?_
        rintro e w2 ⟨rfl, hm2⟩
        exact ⟨_, rfl, hm2, rfl⟩
      · intro tr act w' hm hout hsz hd hG hk hub
        have h2 := hd ⟨2, .data⟩ (by simp) rfl _ rfl
        have hl := hk 0 rfl
        refine jc_turn (by rfl) rfl (wanted_none rfl) (ex_storeA rfl (hG.at hl) (off := 0) (vs := (shaF (rowsT rs)).map bv) (by rw [List.length_map, shaF_len]; exact size_hash) (ints_oneCell .u8 _) (by simp [shaF_len]) ((hout 2 (by decide)).trans oe2) (by rw [show act.eval (.tmp 22) = _ from h2]; rfl)) (setRow_Mod.mono (fun _ _ h => h)) trivial (ByLen.on hl ?_)
        rw [lay_whole _ _ (by simp [shaF_len])]
        exact setRow_Cs (hG.at hl)
      intro vs tr w9 hl htl hm hG hV
      obtain ⟨v0, vs0, rfl, hl0⟩ := list_cons hl
      obtain ⟨v1, vs1, rfl, hl1⟩ := list_cons hl0
      obtain ⟨v2, vs2, rfl, hl2⟩ := list_cons hl1
      obtain ⟨v3, vs3, rfl, hl3⟩ := list_cons hl2
      obtain rfl := list_nil hl3
      clear hl hl0 hl1 hl2 hl3
      have ha0 := HA0.out
      subst ha0
      clear HA0 hV hsz0 oe2 oe3
      simp only [putAll, Act.put, List.setIfInBounds_toArray, List.set_cons_zero, List.set_cons_succ, List.set_nil]
      have hw : Cs w9 w.heap.size ((shaF (rowsT rs)).map bv).toArray 26 := hG.at htl
      have KMG := Lib.hid (KMF.out.trans hm (fun k h1 h2 => by omega))
      have HC := Lib.hid hw
      clear hG hm htl HW KMF hw
      go_wp2
      refine bodyPost_ret (results_cellA rfl _ _ w.heap.size ((shaF (rowsT rs)).map bv) rfl (fun k u hu => by rw [Cs.cell HC.out]; simpa using hu) Try.underlying26 rfl (by rw [List.length_map, shaF_len]; exact size_hash)) rfl ⟨rfl, KMG.out⟩

end Go.Proofs.Ytfgepphankfbfaa

/- Rows that a call gathers. -/
set_option maxRecDepth 100000
set_option linter.unusedVariables false
namespace Go.Proofs.Ytfgepphankfbfaa
open Go Go.RowKit Go.Gv

/-- gathered rows: the outer list may be appended to; each row lies beside it, in blocks from B on -/
structure RowsO (B N : Nat) (w : World) (v : Value) (rs : List (Value × List Int)) : Prop where
  o : OwV 22 (fun k => v.ownBlock = some k) N w v (rs.map (·.1))
  b : ∀ g, v.ownBlock = some g → B ≤ g
  f : RdF (fun k => k < w.heap.size ∧ v.ownBlock ≠ some k ∧ B ≤ k) w rs
theorem RowsO.nil (B : Nat) (w : World) : RowsO B 0 w (.slice none 0 0) [] := ⟨OwV.nil _ _ _, (fun g hg => by cases hg), (fun p hp => by cases hp)⟩
theorem RowsO.shape {B N : Nat} {w : World} {v : Value} {rs : List (Value × List Int)} (h : RowsO B N w v rs) : ∃ ao cap, v = .slice ao rs.length cap := by
  obtain ⟨ao, cap, e⟩ := h.o.shape
  exact ⟨ao, cap, by rw [e, List.length_map]⟩
theorem RowsO.still {B N : Nat} {w w' : World} {v : Value} {rs : List (Value × List Int)} (h : RowsO B N w v rs) (hm : Mod (fun _ => False) w w') : RowsO B N w' v rs :=
  ⟨h.o.mod hm (fun _ _ h => h), h.b, (h.f.mod hm (fun _ _ h => h)).widen (fun k hk => ⟨Nat.lt_of_lt_of_le hk.1 hm.size, hk.2⟩)⟩
theorem RowsO.mod {B N : Nat} {w w' : World} {v : Value} {rs : List (Value × List Int)} {S : Nat → Prop} (h : RowsO B N w v rs) (hm : Mod S w w') (hS : ∀ k, B ≤ k → k < w.heap.size → S k → False) : RowsO B N w' v rs :=
  ⟨h.o.mod hm (fun k h1 h2 => hS k (h.b k h1) (Own.lt h.o.1 h1) h2), h.b, (h.f.mod hm (fun k h1 h2 => hS k h1.2.2 h1.1 h2)).widen (fun k hk => ⟨Nat.lt_of_lt_of_le hk.1 hm.size, hk.2⟩)⟩
theorem RowsO.rows {B N : Nat} {w : World} {v : Value} {rs : List (Value × List Int)} (h : RowsO B N w v rs) : RdRows w v rs := ⟨by
  have := Own.rd h.o.1
  rwa [List.length_map] at this, h.f.widen (fun k hk => hk.1)⟩
/-- what was cut just now lies beside them -/
theorem RowsO.beside {B N : Nat} {w w' : World} {v u : Value} {rs : List (Value × List Int)} {bs : List Int} {n : Nat} (h : RowsO B N w v rs) (hu : OwR (New w w') n w' u bs) (hB : B ≤ w.heap.size) (hn : n ≤ 200) : RdR (fun k => k < w'.heap.size ∧ v.ownBlock ≠ some k ∧ B ≤ k) 200 w' u bs :=
  hu.rd.widen (fun k hk => ⟨hk.2, fun e => by have := Own.lt h.o.1 e; exact absurd hk.1 (by omega), Nat.le_trans hB hk.1⟩) hn
end Go.Proofs.Ytfgepphankfbfaa

/- Rows of bytes as a kind of things: a list of them, and the rows that a call takes. -/
set_option maxRecDepth 100000
set_option linter.unusedVariables false
namespace Go.Proofs.Ytfgepphankfbfaa
open Go Go.RowKit Go.Gv

/-- bytes as a thing: one cell -/
def BtR : Rep (List Int) where
  sz := 1
  pos := by decide
  rd R w cs a := ∃ v, cs = [v] ∧ RdR R a.length w v a
  len h := by
    obtain ⟨v, rfl, -⟩ := h
    rfl
  one h := by
    obtain ⟨v, rfl, h0⟩ := h
    obtain ⟨_, _, e⟩ := h0.shape
    subst e
    intro u hu
    simp only [List.mem_cons, List.not_mem_nil, or_false] at hu
    subst hu
    rfl
  keep h hk := by
    obtain ⟨v, rfl, h0⟩ := h
    exact ⟨_, rfl, RdR_keep h0 hk⟩
  wid h hs := by
    obtain ⟨v, rfl, h0⟩ := h
    exact ⟨_, rfl, h0.widen hs (Nat.le_refl _)⟩
  tight h := by
    obtain ⟨v, rfl, h0⟩ := h
    exact ⟨_, rfl, RdR_tight h0⟩
theorem info_Bt : (Try.prog.info? 22).map (fun i => (i.zero, i.size, i.bytes)) = some (some (.slice none 0 0), 1, 24) := by kernel_rfl
theorem BtR.mk {R : Nat → Prop} {N : Nat} {w : World} {v : Value} {bs : List Int} (h : RdR R N w v bs) : BtR.rd R w [v] bs := ⟨v, rfl, h.1, h.2.1, Nat.le_refl _⟩
theorem run_rem_i {P : Program} {t : TypeId} {k : IntKind} {w : World} (x y : Int) (h : y ≠ 0) : (binOp .rem t (.int k x) (.int k y)).run P w = .ok (.int k (x.tmod y)) w := by
  simp [binOp, Op.intDiv, h]
theorem run_quo_i {P : Program} {t : TypeId} {k : IntKind} {w : World} (x y : Int) (h : y ≠ 0) : (binOp .quo t (.int k x) (.int k y)).run P w = .ok (.int k (k.wrap (x.tdiv y))) w := by
  simp [binOp, Op.intDiv, h]
theorem own_lit {w : World} {g : Nat} {bs : List Int} (hc : Cs w g (bs.map bv).toArray 5) (hb : Bytes bs) (hl : bs.length ≤ maxLen) : OwnB w (.slice (some ⟨g, 0, none⟩) bs.length bs.length) bs := by
  refine ⟨by simp, ?_, .inr ⟨g, bs.length, _, rfl, hc, Nat.le_refl _, hl, by simp, by rw [Nat.mul_one]; exact List.take_of_length_le (by simp), ?_⟩⟩
  · intro u hu
    obtain ⟨y, hy, rfl⟩ := List.mem_map.1 hu
    exact ⟨y, rfl, hb y hy⟩
  · intro u hu
    obtain ⟨y, hy, rfl⟩ := List.mem_map.1 (by simpa using hu)
    exact ⟨y, rfl, hb y hy⟩
theorem own_litR {w w' : World} {C : Array Value} {bs : List Int} {n N : Nat} (hc : Cs w' w.heap.size C 5) (hC : C = (bs.map bv).toArray) (hb : Bytes bs) (hn : n = bs.length) (hN : n ≤ 1000000 ∧ n ≤ N) (hm : Mod (fun _ => False) w w') : OwR (New w w') N w' (.slice (some ⟨w.heap.size, 0, none⟩) n n) bs := by
  subst hC hn
  exact ⟨own_lit hc hb (by rw [maxLen_val]; omega), (fun g hg => by
    obtain rfl : w.heap.size = g := by simpa [Value.ownBlock] using hg
    exact ⟨Nat.le_refl _, hc.lt⟩), hN.2⟩
section
variable {ops : Array Oper} {i : Nat} {o : Oper} {a : Act} {w : World}
theorem qc_bytes {KQ : Value → World → Prop} {ts T8 : TypeId} {n : Nat} {parts : Array (Nat × Operand)} (ho : ops[i]? = some o) (hw : Region.wanted o (yielded ops a.tmps) = true) (hop : o.op = .buildSlice ts n parts) (hu : Try.prog.underlying ts = some (.slice T8)) (hie : (Try.prog.info? T8).map (fun i => (i.size, i.zero)) = some (1, some (.int .u8 0))) (hn : n ≠ 0 ∧ n ≤ 1000) {C : Array Value}
    (hf : Instr.fill (fun i => some (i * 1, 1)) ((Array.range (n * 1)).map (#[Value.int .u8 0][· % 1]!)) (parts.map fun (i, x) => (i, a.eval x)).toList = some C)
    (h : ∀ w', Cs w' w.heap.size C T8 → Mod (fun _ => False) w w' → KQ (.slice (some ⟨w.heap.size, 0, none⟩) n n) w') {Q : Exit → Act → World → Prop} : wpOp Try.prog ops Q i (fun a' w' => ∃ v, a' = a.put o.dst v ∧ KQ v w') a w :=
  qc_run ho hw (ex_lit hop hu hie hn hf) (h _ (Cs.new _ _ _) ((Mod.refl _ _).alloc _))
end
/-- a slice from its i-th byte on -/
def frV (ao : Option Addr) (n cap i : Nat) : Value := .slice (if cap = i then ao else ao.map fun x => x.add i) (n - i) (cap - i)
theorem ex_sliceFrom {P : Program} {o : Oper} {a : Act} {w : World} {T e : TypeId} {x y : Operand} {ao : Option Addr} {n cap i : Nat} {k : IntKind} (ho : o.op = .slice T x (some y) none none) (hu : P.underlying T = some (.slice e)) (hs : (P.info? e).map (·.size) = some 1) (hx : a.eval x = .slice ao n cap) (hy : a.eval y = .int k (i : Int)) (hi : i ≤ n) (hc : n ≤ cap) :
    (execOp a.eval o).run P w = .ok (.value (frV ao n cap i)) w := by
  have hsz : (sizeOf e).run P w = .ok 1 w := by
    cases hq : P.info? e with
    | none => rw [hq] at hs; cases hs
    | some i => rw [hq] at hs; simp [sizeOf, typeInfo, hq]; exact Option.some.inj hs
  have hi2 : i ≤ cap := Nat.le_trans hi hc
  unfold execOp frV
  by_cases h : cap = i
  · subst h
    simp [ho, hx, hy, Instr.sliceAt, Instr.slice, Instr.sliceBounds, Instr.sliceBound, asIntOf, run_underlying hu, hsz, hi, hc]
  · have h2 : ¬ cap - i = 0 := by omega
    simp [ho, hx, hy, Instr.sliceAt, Instr.slice, Instr.sliceBounds, Instr.sliceBound, asIntOf, run_underlying hu, hsz, hi, hc, h, h2]
theorem RdR.from {R : Nat → Prop} {N : Nat} {w : World} {ao : Option Addr} {n cap : Nat} {bs : List Int} (h : RdR R N w (.slice ao n cap) bs) (i : Nat) (hi : i ≤ bs.length) : RdR R N w (frV ao n cap i) (bs.drop i) := by
  have hl := h.1.len
  obtain rfl := hl.1
  refine ⟨?_, fun h0 g hg => ?_, by have := h.2.2; simp; omega⟩
  · unfold frV
    split
    · rename_i e
      have := RdB.tail_at h.1 i hi e
      rwa [show cap - i = 0 by omega]
    · rename_i e
      exact RdB.tail_in h.1 i hi e
  · have hpos : 0 < bs.length := by simp at h0; omega
    refine h.2.1 hpos g ?_
    unfold frV at hg
    cases ao with
    | none => split at hg <;> cases hg
    | some x =>
      split at hg
      · exact hg
      · have hb : (x.add i).block = x.block := by unfold Addr.add; split <;> rfl
        simp only [Option.map_some, Value.ownBlock] at hg ⊢
        rw [← hb]
        exact hg
theorem RdS_two {R : Nat → Prop} {w : World} {g : Nat} {T : TypeId} {v1 v2 : Value} {a b : List Int} (hc : Cs w g #[v1, v2] T) (h1 : BtR.rd R w [v1] a) (h2 : BtR.rd R w [v2] b) (hg : R g) : RdS BtR R w (.slice (some ⟨g, 0, none⟩) 2 2) [a, b] := by
  refine ⟨[[v1], [v2]], rfl, fun i c x hi hx => ?_, ?_, fun _ g' hg' => by cases hg'; exact hg⟩
  · match i with
    | 0 => cases hi; cases hx; exact h1
    | 1 => cases hi; cases hx; exact h2
    | i + 2 => simp at hi
  · refine Rd.mk (Nat.le_refl _) (by rw [maxLen_val]; decide) rfl fun j u hu => ?_
    rw [Nat.zero_add, hc.cell]
    simpa using hu
/-- the bytes of rows: how many, each with its length -/
def rowsB2 (l : List (List Int)) : List Int := encN l.length ++ (l.map fun r => encN r.length ++ r).flatten
theorem rowsT_B2 (rs : List (Value × List Int)) : rowsT rs = rowsB2 (rs.map (·.2)) := by
  unfold rowsT rowsB rowsB2
  rw [List.length_map, List.map_map, List.flatMap_def]
  rfl
theorem rows_of {R : Nat → Prop} {w : World} {v : Value} {l : List (List Int)} (h : RdS BtR R w v l) (hl : ∀ a ∈ l, a.length ≤ 200) : ∃ rs : List (Value × List Int), rs.map (·.2) = l ∧ RdRows w v rs := by
  obtain ⟨css, h1, h2, h3, h4⟩ := h.tight
  have key : ∀ (css : List (List Value)) (l : List (List Int)), css.length = l.length → (∀ (i : Nat) cs a, css[i]? = some cs → l[i]? = some a → BtR.rd (fun k => R k ∧ k < w.heap.size) w cs a) → (∀ a ∈ l, a.length ≤ 200) →
      ∃ rs : List (Value × List Int), rs.map (·.2) = l ∧ rs.map (·.1) = css.flatten ∧ RdF (fun k => k < w.heap.size) w rs := by
    intro css
    induction css with
    | nil =>
      intro l e _ _
      obtain rfl : l = [] := List.eq_nil_of_length_eq_zero e.symm
      exact ⟨[], rfl, rfl, fun p hp => by cases hp⟩
    | cons c cs ih =>
      intro l e h hl
      cases l with
      | nil => cases e
      | cons a l =>
        obtain ⟨rs, e1, e2, e3⟩ := ih l (by simpa using e) (fun i c' a' hc ha => h (i + 1) c' a' hc ha) (fun x hx => hl x (List.mem_cons_of_mem _ hx))
        obtain ⟨u, rfl, hu⟩ := h 0 c a rfl rfl
        refine ⟨(u, a) :: rs, by simp [e1], by simp [e2], ?_⟩
        intro p hp
        rcases List.mem_cons.1 hp with rfl | hp
        · exact hu.widen (fun k hk => hk.2) (hl _ (List.mem_cons_self ..))
        · exact e3 p hp
  obtain ⟨rs, e1, e2, e3⟩ := key css l h1 h2 hl
  refine ⟨rs, e1, ?_, e3⟩
  have hlen : rs.length = l.length := by rw [← e1, List.length_map]
  rw [hlen, e2]
  exact h3
theorem Rows_Q {R : Nat → Prop} {w : World} {v : Value} {l : List (List Int)} (h : RdS BtR R w v l) (hl : ∀ a ∈ l, a.length ≤ 200) (hn : l.length ≤ 8) :
    Calls Try.prog 35 #[v] w fun e w' => e = .returned (hv (shaF (rowsB2 l))) ∧ Mod (fun _ => False) w w' := by
  obtain ⟨rs, e1, hr⟩ := rows_of h hl
  have hlen : rs.length = l.length := by rw [← e1, List.length_map]
  have hq := ShaRowsF_any v rs w hr (by omega)
  rw [rowsT_B2, e1] at hq
  exact hq
theorem zeros_mem {z : Array Value} (hz : 0 < z.size) (k : Nat) : ∀ u ∈ Builtin.zeroCells z k, u ∈ z := by
  intro u h'
  simp only [Builtin.zeroCells] at h'
  simp at h'
  obtain ⟨q2, _, h'⟩ := h'
  have hq2 : q2 % z.size < z.size := Nat.mod_lt _ hz
  rw [getElem!_pos z (q2 % z.size) hq2] at h'
  exact h' ▸ Array.getElem_mem hq2
theorem zeroB_mem (k : Nat) : ∀ u ∈ Builtin.zeroCells (Value.int .u8 0).cells k, IsB u := fun u hu => IsB_zero u (Array.mem_toList_iff.2 (zeros_mem (by decide) k u hu))
section
variable {ops : Array Oper} {Q : Exit → Act → World → Prop} {i : Nat} {o : Oper} {a : Act} {w : World}
/-- bytes are appended to a literal's: the row grows -/
theorem qc_appL {KQ : Value → World → Prop} {s x : Operand} {R' : Nat → Prop} {M g : Nat} {C : Array Value} {T : TypeId} {xv : Value} {bs new : List Int} (ho : ops[i]? = some o) (hw : Region.wanted o (yielded ops a.tmps) = true) (hop : o.op = .call { callee := .builtin .append, args := #[s, x], argTypes := #[22, 22] })
    (hs : a.eval s = .slice (some ⟨g, 0, none⟩) C.size C.size) (hc : ∃ m, w.heap[g]? = some (.cells C T m)) (hC : C = (bs.map bv).toArray) (hn : C.size = bs.length) (hb : Bytes bs) (hx : a.eval x = xv) (hrd : RdR R' M w xv new) (hpos : 0 < new.length) (hroom : (bs ++ new).length ≤ 900000)
    (h : ∀ ao cap w', OwR (New w w') 900000 w' (.slice ao (bs.length + new.length) cap) (bs ++ new) → Mod (fun _ => False) w w' → KQ (.slice ao (bs.length + new.length) cap) w') : wpOp Try.prog ops Q i (fun a' w' => ∃ v, a' = a.put o.dst v ∧ KQ v w') a w := by
  obtain ⟨i0, hi, hz0, hz1, hz2⟩ := info_parts info_u8
  obtain ⟨m0, hc⟩ := hc
  have hlen : bs.length + new.length ≤ 900000 := by simpa using hroom
  rw [hn] at hs
  rcases hrd.1.2.form (by decide) with ⟨h0, -⟩ | ⟨xg, xo, xc, hmpos, rfl, hmc, hxm, hl, hnews⟩
  · omega
  · have hold : ∀ j u, (bs.map bv)[j]? = some u → w.cell? ((⟨g, 0, none⟩ : Addr).add j) = some u := by
      intro j u hu
      rw [add_mk, Nat.zero_add]
      unfold World.cell?
      simp only [hc, hC]
      simpa using hu
    have hnews' : ∀ j u, (new.map bv)[j]? = some u → w.cell? ((⟨xg, xo, none⟩ : Addr).add j) = some u := fun j u hu => by rw [add_mk]; exact hnews j u hu
    have h63 : bs.length + new.length ≤ maxLen := by rw [maxLen_val]; omega
    have hr := run_append_grow (P := Try.prog) w 22 o.type 5 i0 (.int .u8 0) Try.underlying22 hi hz0 ⟨g, 0, none⟩ bs.length bs.length (bs.map bv) (by rw [List.length_map, hz1, Nat.mul_one]) hold ⟨xg, xo, none⟩ new.length xc (new.map bv) (by rw [List.length_map, hz1, Nat.mul_one]) hnews' (by omega) (by rw [maxLen_val] at h63; omega) (growslice_fits (by rw [maxLen_val] at h63; omega) (by rw [hz2]; omega))
    refine qc_run ho hw (ex_append hop hs hx hr) (h _ _ _ ⟨?_, (fun k hk => ?_), hroom⟩ (((Mod.refl _ _).drew).alloc _))
    · have hge := grownCap_ge w (bs.length + new.length) bs.length 5
      have hcm : grownCap w (bs.length + new.length) bs.length 5 ≤ maxLen := grownCap_le_maxLen w (bs.length + new.length) bs.length 5 h63
      refine ⟨by simp, isB_all (Bytes.append hb hrd.1.1), .inr ⟨w.heap.size, _, _, by rw [List.length_append], heap_alloc_new w.drew _, by rw [List.length_append]; exact hge, hcm, ?_, ?_, ?_⟩⟩
      · simp only [Array.size_append, List.size_toArray, size_zeroCells, List.length_map, Nat.mul_one]
        show _ ≤ bs.length + new.length + _ * (Value.int .u8 0).cells.size
        simp only [Value.cells, List.size_toArray, List.length_cons, List.length_nil]
        omega
      · simp only [Array.toList_append, List.append_assoc, List.map_append]
        rw [← List.append_assoc, show (bs ++ new).length * 1 = (bs.map bv ++ new.map bv).length by simp]
        exact List.take_left
      · intro u hu
        simp only [Array.toList_append] at hu
        rcases List.mem_append.1 hu with hu | hu
        · rcases List.mem_append.1 hu with hu | hu
          · exact isB_all hb u hu
          · exact isB_all hrd.1.1 u hu
        · exact zeroB_mem _ u (Array.mem_toList_iff.1 hu)
    · obtain rfl : w.heap.size = k := by simpa [Value.ownBlock] using hk
      exact ⟨Nat.le_refl _, by simp⟩
end
end Go.Proofs.Ytfgepphankfbfaa
