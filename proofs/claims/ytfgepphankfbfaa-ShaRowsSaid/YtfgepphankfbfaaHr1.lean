/- Texts that are built one behind the other: XBase, XMem, XRep, XInv, XInv2, XVal, XVal2, XMap, XOps, XVal3, XBytes, XSha1, XSha2, XSha3, XKeep, XCode2, XCode3, XCode1, XCode4, XKeep2, XCodeW, XPlain1, XReg, XSha4. No condition. -/
import Derived.WalkKit
import Derived.LaidEqlPtr
import Derived.Laws.StructEq
import Derived.Laws.CopyRow
import Derived.Deep.RegionLaw
import Derived.Laws.Entries
import Derived.Maps.Own
import Derived.DeepKeys4
import Derived.Great.BuildSlice
import Derived.Laws.IdiomStrings
import Derived.Laws.BytesArg
import Derived.Test.YtfgepphankfbfaaRows
import Derived.Lib.Hide
import Derived.Deep.QuietTactic
import Derived.BigQuiet
import Derived.IntWalk
import Derived.Deep.Cut
import Derived.Deep.DeepMust
import Derived.Laws.Cover3
import Derived.Laws.CopyOwn
import Derived.OpenShut
/- Words on memory that all contracts of this work share: which blocks a call may turn (Mod), a slice that reads as cells (Rd), a slice that may be appended to (Own). No program here. -/
namespace Go.Gv
open Go Go.RowKit

theorem maxLen_val : maxLen = 9223372036854775807 := by decide

/-- w' is w but for blocks of S, and new blocks. -/
structure Mod (S : Nat → Prop) (w w' : World) : Prop where
  os : w'.os = w.os
  tape : w'.tape = w.tape
  output : w'.output = w.output
  size : w.heap.size ≤ w'.heap.size
  block : ∀ k, k < w.heap.size → ¬ S k → w'.heap[k]? = w.heap[k]?

namespace Mod
variable {S S' : Nat → Prop} {w a b c : World}
theorem refl (S : Nat → Prop) (w : World) : Mod S w w := ⟨rfl, rfl, rfl, Nat.le_refl _, fun _ _ _ => rfl⟩
theorem mono (h : Mod S a b) (hs : ∀ k, k < a.heap.size → S k → S' k) : Mod S' a b :=
  ⟨h.os, h.tape, h.output, h.size, fun k hk hn => h.block k hk (fun hS => hn (hs k hk hS))⟩
theorem trans (h : Mod S a b) (k : Mod S' b c) (hs : ∀ i, i < a.heap.size → S' i → S i) : Mod S a c :=
  ⟨k.os.trans h.os, k.tape.trans h.tape, k.output.trans h.output, Nat.le_trans h.size k.size,
    fun i hi hn => (k.block i (Nat.lt_of_lt_of_le hi h.size) (fun hS => hn (hs i hi hS))).trans (h.block i hi hn)⟩
theorem alloc (h : Mod S a b) (o : Obj) : Mod S a (b.alloc o) :=
  ⟨h.os, h.tape, h.output, Nat.le_trans h.size (by simp), fun i hi hn => (Below.heap_alloc b o i (Nat.lt_of_lt_of_le hi h.size)).trans (h.block i hi hn)⟩
theorem drew (h : Mod S a b) : Mod S a b.drew := ⟨h.os, h.tape, h.output, h.size, h.block⟩
theorem setCell (h : Mod S a b) {p : Addr} (hp : p.block < a.heap.size → S p.block) (u : Value) : Mod S a (b.setCell p u) :=
  ⟨h.os, h.tape, h.output, by simpa using h.size, fun i hi hn => (Below.heap_setCell b p u i (fun e => hn (e ▸ hp (e ▸ hi)))).trans (h.block i hi hn)⟩
theorem obj (h : Mod S a b) {k : Nat} {o : Obj} (hk : a.heap[k]? = some o) (hn : ¬ S k) : b.heap[k]? = some o :=
  (h.block k (Array.getElem?_eq_some_iff.1 hk).1 hn).trans hk
theorem cell (h : Mod S a b) {p : Addr} {u : Value} (hc : a.cell? p = some u) (hn : ¬ S p.block) : b.cell? p = some u :=
  (World.cell?_of_block (h.block p.block (World.block_lt_of_cell? _ _ hc) hn)).trans hc
theorem frozen (h : Mod S a b) {p : Addr} {u : Value} (hc : a.cell? p = some u) (hn : ¬ S p.block) : b.frozen? p = a.frozen? p :=
  World.frozen?_of_block (h.block p.block (World.block_lt_of_cell? _ _ hc) hn)
theorem below (h : Mod S a b) {B : Nat} (hB : B ≤ a.heap.size) (hs : ∀ k, k < B → ¬ S k) : Below B a b :=
  ⟨h.os, h.tape, h.output, h.size, fun k hk => h.block k (by omega) (hs k hk)⟩
end Mod

/-- a block of cells that may be written -/
def Cs (w : World) (g : Nat) (c : Array Value) (e : TypeId) : Prop := w.heap[g]? = some (.cells c e (0, 0))

theorem Cs.lt {w : World} {g : Nat} {c : Array Value} {e : TypeId} (h : Cs w g c e) : g < w.heap.size := (Array.getElem?_eq_some_iff.1 h).1
theorem Cs.cell {w : World} {g : Nat} {c : Array Value} {e : TypeId} (h : Cs w g c e) (j : Nat) : w.cell? ⟨g, j, none⟩ = c[j]? := by
  unfold Cs at h; simp [World.cell?, h]
theorem Cs.frozen {w : World} {g : Nat} {c : Array Value} {e : TypeId} (h : Cs w g c e) (j : Nat) : w.frozen? ⟨g, j, none⟩ = false := by
  unfold Cs at h; simp [World.frozen?, h]
theorem Cs.mod {S : Nat → Prop} {w w' : World} {g : Nat} {c : Array Value} {e : TypeId} (h : Cs w g c e) (hm : Mod S w w') (hn : ¬ S g) : Cs w' g c e := hm.obj h hn
theorem Cs.drew {w : World} {g : Nat} {c : Array Value} {e : TypeId} (h : Cs w g c e) : Cs w.drew g c e := h
theorem Cs.alloc {w : World} {g : Nat} {c : Array Value} {e : TypeId} (h : Cs w g c e) (o : Obj) : Cs (w.alloc o) g c e := (Below.heap_alloc w o g h.lt).trans h
theorem Cs.new (w : World) (c : Array Value) (e : TypeId) : Cs (w.alloc (.cells c e)) w.heap.size c e := heap_alloc_new w _
theorem Cs.set {w : World} {g : Nat} {c : Array Value} {e : TypeId} (h : Cs w g c e) (j : Nat) (u : Value) : Cs (w.setCell ⟨g, j, none⟩ u) g (c.setIfInBounds j u) e := by
  unfold Cs at h ⊢
  simp [World.setCell, Array.getElem?_modify, h]
theorem Cs.other {w : World} {g : Nat} {c : Array Value} {e : TypeId} (h : Cs w g c e) {p : Addr} (hp : g ≠ p.block) (u : Value) : Cs (w.setCell p u) g c e :=
  (Below.heap_setCell w p u g hp).trans h

/-- the slice v reads, in w, as n elements of s cells each: the cells cs -/
def Rd (s : Nat) (w : World) (v : Value) (n : Nat) (cs : List Value) : Prop :=
  cs.length = n * s ∧ ∃ ao cap, v = .slice ao n cap ∧ n ≤ cap ∧ cap ≤ maxLen ∧ (ao = none → cap = 0) ∧
    ∀ x, ao = some x → ∀ j u, cs[j]? = some u → x.spot = none ∧ w.cell? (x.add j) = some u

/-- where the slice v of n elements holds anything it lies in no block of S -/
def Apart (v : Value) (n : Nat) (S : Nat → Prop) : Prop := 0 < n → ∀ g, v.ownBlock = some g → ¬ S g

theorem Apart.mono {v : Value} {n : Nat} {S S' : Nat → Prop} (h : Apart v n S) (hs : ∀ k, S' k → S k) : Apart v n S' := fun hn g hg hS => h hn g hg (hs g hS)
theorem Apart.none {v : Value} {n : Nat} : Apart v n (fun _ => False) := fun _ _ _ => id
theorem Apart.zero {v : Value} {S : Nat → Prop} : Apart v 0 S := fun h => absurd h (by omega)

theorem add_mk (g o j : Nat) : (⟨g, o, none⟩ : Addr).add j = ⟨g, o + j, none⟩ := by
  unfold Addr.add; split <;> simp_all

theorem Rd.zero (s : Nat) (w : World) (ao : Option Addr) (cap : Nat) (h1 : cap ≤ maxLen) (h2 : ao = none → cap = 0) : Rd s w (.slice ao 0 cap) 0 [] :=
  ⟨by simp, ao, cap, rfl, Nat.zero_le _, h1, h2, fun x hx j u hu => by simp at hu⟩
theorem Rd.nil (s : Nat) (w : World) : Rd s w (.slice none 0 0) 0 [] := Rd.zero s w none 0 (by simp [maxLen_val]) (fun _ => rfl)

/-- its address, where it holds anything -/
theorem Rd.form {s : Nat} {w : World} {v : Value} {n : Nat} {cs : List Value} (hs : 0 < s) (h : Rd s w v n cs) :
    (n = 0 ∧ cs = [] ∧ ∃ ao cap, v = .slice ao 0 cap ∧ cap ≤ maxLen ∧ (ao = none → cap = 0)) ∨
      ∃ g o cap, 0 < n ∧ v = .slice (some ⟨g, o, none⟩) n cap ∧ n ≤ cap ∧ cap ≤ maxLen ∧ cs.length = n * s ∧ ∀ j u, cs[j]? = some u → w.cell? ⟨g, o + j, none⟩ = some u := by
  obtain ⟨hl, ao, cap, rfl, h1, h2, h3, h4⟩ := h
  rcases Nat.eq_zero_or_pos n with rfl | hn
  · exact .inl ⟨rfl, List.eq_nil_of_length_eq_zero (by simpa using hl), ao, cap, rfl, h2, h3⟩
  · cases ao with
    | none => have := h3 rfl; omega
    | some x =>
      obtain ⟨g, o, sp⟩ := x
      have hpos : 0 < cs.length := by rw [hl]; exact Nat.mul_pos hn hs
      obtain ⟨hsp, _⟩ := h4 _ rfl 0 _ (List.getElem?_eq_getElem hpos)
      simp only at hsp
      subst hsp
      exact .inr ⟨g, o, cap, hn, rfl, h1, h2, hl, fun j u hu => by have := (h4 _ rfl j u hu).2; rwa [add_mk] at this⟩

theorem Rd.mk {s : Nat} {w : World} {g o n cap : Nat} {cs : List Value} (h1 : n ≤ cap) (h2 : cap ≤ maxLen) (hl : cs.length = n * s)
    (hc : ∀ j u, cs[j]? = some u → w.cell? ⟨g, o + j, none⟩ = some u) : Rd s w (.slice (some ⟨g, o, none⟩) n cap) n cs := by
  refine ⟨hl, some ⟨g, o, none⟩, cap, rfl, h1, h2, ?_, ?_⟩
  · intro h; cases h
  · intro x hx; cases hx; exact fun j u hu => ⟨rfl, by rw [add_mk]; exact hc j u hu⟩

theorem Rd.keep {s : Nat} {w w' : World} {v : Value} {n : Nat} {cs : List Value} (h : Rd s w v n cs) (hk : 0 < n → ∀ g, v.ownBlock = some g → g < w.heap.size → w'.heap[g]? = w.heap[g]?) : Rd s w' v n cs := by
  obtain ⟨hl, ao, cap, rfl, h1, h2, h3, h4⟩ := h
  refine ⟨hl, ao, cap, rfl, h1, h2, h3, fun x hx j u hu => ⟨(h4 x hx j u hu).1, ?_⟩⟩
  have hc := (h4 x hx j u hu).2
  have hn : 0 < n := by
    rcases Nat.eq_zero_or_pos n with rfl | h
    · have : cs = [] := List.eq_nil_of_length_eq_zero (by simpa using hl)
      subst this; simp at hu
    · exact h
  have hb : (x.add j).block = x.block := by unfold Addr.add; split <;> rfl
  subst hx
  refine (World.cell?_of_block ?_).trans hc
  rw [hb]
  exact hk hn x.block rfl (by have := World.block_lt_of_cell? _ _ hc; rwa [hb] at this)
theorem Rd.mod {S : Nat → Prop} {s : Nat} {w w' : World} {v : Value} {n : Nat} {cs : List Value} (h : Rd s w v n cs) (hm : Mod S w w') (hn : Apart v n S) : Rd s w' v n cs :=
  h.keep fun h0 g hg hlt => hm.block g hlt (hn h0 g hg)
theorem Rd.alloc {s : Nat} {w : World} {v : Value} {n : Nat} {cs : List Value} (h : Rd s w v n cs) (o : Obj) : Rd s (w.alloc o) v n cs :=
  h.keep fun _ g _ hlt => Below.heap_alloc w o g hlt
theorem Rd.drew {s : Nat} {w : World} {v : Value} {n : Nat} {cs : List Value} (h : Rd s w v n cs) : Rd s w.drew v n cs := h.keep fun _ _ _ _ => rfl

theorem Rd.sliced {s : Nat} {w : World} {ao : Option Addr} {n cap : Nat} {cs : List Value} (h : Rd s w (.slice ao n cap) n cs) (lo hi m : Nat) (h1 : lo ≤ hi) (h2 : hi ≤ n) (h3 : hi ≤ m) (h4 : m ≤ cap) :
    Rd s w (.slice (if m = lo then ao else ao.map (·.add (lo * s))) (hi - lo) (m - lo)) (hi - lo) ((cs.drop (lo * s)).take ((hi - lo) * s)) := by
  obtain ⟨hl, ao', cap', e, g1, g2, g3, g4⟩ := h
  simp only [Value.slice.injEq] at e
  obtain ⟨rfl, _, rfl⟩ := e
  have hle : hi * s ≤ n * s := Nat.mul_le_mul_right _ h2
  have hls : lo * s ≤ hi * s := Nat.mul_le_mul_right _ h1
  have hsub : (hi - lo) * s = hi * s - lo * s := Nat.sub_mul _ _ _
  refine ⟨by simp; omega, _, _, rfl, by omega, by omega, ?_, ?_⟩
  · split
    · omega
    · intro hm
      simp at hm
      have := g3 hm
      omega
  · intro x hx j u hu
    split at hx
    · have : j < (hi - lo) * s := by have := (List.getElem?_eq_some_iff.1 hu).1; simp at this; omega
      have : hi = lo := by omega
      subst this
      simp at this
    · simp only [Option.map_eq_some_iff] at hx
      obtain ⟨y, hy, rfl⟩ := hx
      have hu' : cs[lo * s + j]? = some u := by
        rw [List.getElem?_take] at hu
        split at hu
        · rwa [List.getElem?_drop] at hu
        · cases hu
      obtain ⟨hsp, hc⟩ := g4 y hy _ _ hu'
      obtain ⟨yb, yo, ys⟩ := y
      simp only at hsp
      subst hsp
      rw [add_mk] at hc ⊢
      rw [add_mk]
      exact ⟨rfl, by rwa [Nat.add_assoc]⟩

/-- the slice v may be appended to: nil, or at the head of a block of its own; each cell of that block is an E -/
def Own (E : Value → Prop) (e s : Nat) (w : World) (v : Value) (n : Nat) (cs : List Value) : Prop :=
  cs.length = n * s ∧ (∀ u ∈ cs, E u) ∧ ((v = .slice none 0 0 ∧ n = 0) ∨
    ∃ g cap cur, v = .slice (some ⟨g, 0, none⟩) n cap ∧ Cs w g cur e ∧ n ≤ cap ∧ cap ≤ maxLen ∧ cap * s ≤ cur.size ∧ cur.toList.take (n * s) = cs ∧ ∀ u ∈ cur.toList, E u)

section
variable {E : Value → Prop} {e s : Nat} {w w' : World} {v : Value} {n : Nat} {cs : List Value} {S : Nat → Prop}
theorem Own.nil (E : Value → Prop) (e s : Nat) (w : World) : Own E e s w (.slice none 0 0) 0 [] := ⟨by simp, by simp, .inl ⟨rfl, rfl⟩⟩
theorem Own.rd (h : Own E e s w v n cs) : Rd s w v n cs := by
  obtain ⟨hl, _, ⟨rfl, rfl⟩ | ⟨g, cap, cur, rfl, hg, h1, h2, h3, h4, _⟩⟩ := h
  · obtain rfl : cs = [] := List.eq_nil_of_length_eq_zero (by simpa using hl)
    exact Rd.nil _ _
  · refine Rd.mk h1 h2 hl fun j u hu => ?_
    rw [Nat.zero_add, hg.cell]
    have hj : j < n * s := by have := (List.getElem?_eq_some_iff.1 hu).1; omega
    rw [← h4, List.getElem?_take, if_pos hj] at hu
    simpa using hu
theorem Own.lt (h : Own E e s w v n cs) {g : Nat} (hg : v.ownBlock = some g) : g < w.heap.size := by
  obtain ⟨hl, _, ⟨rfl, rfl⟩ | ⟨g', cap, cur, rfl, hc, _⟩⟩ := h
  · cases hg
  · simp [Value.ownBlock] at hg; subst hg; exact hc.lt
theorem Own.mod (h : Own E e s w v n cs) (hm : Mod S w w') (hn : ∀ g, v.ownBlock = some g → ¬ S g) : Own E e s w' v n cs := by
  obtain ⟨hl, hE, ⟨rfl, rfl⟩ | ⟨g, cap, cur, rfl, hc, r⟩⟩ := h
  · exact ⟨hl, hE, .inl ⟨rfl, rfl⟩⟩
  · exact ⟨hl, hE, .inr ⟨g, cap, cur, rfl, hc.mod hm (hn g rfl), r⟩⟩
theorem Own.alloc (h : Own E e s w v n cs) (o : Obj) : Own E e s (w.alloc o) v n cs := h.mod (S := fun _ => False) ((Mod.refl _ _).alloc o) (fun _ _ => id)
theorem Own.drew (h : Own E e s w v n cs) : Own E e s w.drew v n cs := h.mod (S := fun _ => False) ((Mod.refl _ _).drew) (fun _ _ => id)
theorem Own.other (h : Own E e s w v n cs) {p : Addr} (hp : ∀ g, v.ownBlock = some g → g ≠ p.block) (u : Value) : Own E e s (w.setCell p u) v n cs :=
  h.mod (S := fun k => k = p.block) (Mod.setCell (Mod.refl (fun k => k = p.block) w) (fun _ => rfl) u) hp
theorem Own.shape (h : Own E e s w v n cs) : ∃ ao cap, v = .slice ao n cap := by
  obtain ⟨_, _, ⟨rfl, rfl⟩ | ⟨g, cap, cur, rfl, _⟩⟩ := h
  · exact ⟨none, 0, rfl⟩
  · exact ⟨_, _, rfl⟩
end

/-- what an append may come to: the value's head, its room, the world -/
def Appended (E : Value → Prop) (e s : Nat) (w : World) (v : Value) (n : Nat) (cs : List Value) (ao : Option Addr) (cap : Nat) (w' : World) : Prop :=
  Own E e s w' (.slice ao n cap) n cs ∧ Mod (fun k => some k = v.ownBlock) w w' ∧
    ((Value.slice ao n cap).ownBlock = v.ownBlock ∨ ∃ k, (Value.slice ao n cap).ownBlock = some k ∧ w.heap.size ≤ k)

theorem run_append {P : Program} {E : Value → Prop} (w : World) (t ty e : TypeId) (i : TypeInfo) (z : Value) (s bytes : Nat) (ht : P.underlying t = some (.slice e)) (hi : P.info? e = some i) (hz : i.zero = some z)
    (hsize : i.size = s) (hby : i.bytes = bytes) (hzs : z.cells.size = s) (hsz : 0 < s) (hzE : ∀ u ∈ z.cells.toList, E u)
    (v : Value) (n : Nat) (xs : List Value) (hown : Own E e s w v n xs) (x : Value) (m : Nat) (news : List Value) (hx : Rd s w x m news) (hE : ∀ u ∈ news, E u) (h1 : ∀ u ∈ news, u.oneCell' = true)
    (hbytes : (n + m) * bytes ≤ 140737488355328) (h63 : n + m ≤ maxLen) :
    ∃ ao cap w', (Builtin.append_ #[t, t] ty #[v, x]).run P w = .ok (.slice ao (n + m) cap) w' ∧ Appended E e s w v (n + m) (xs ++ news) ao cap w' := by
  subst hsize
  subst hby
  have hsmall : n + m ≤ 9223372036854775807 := by simp only [maxLen] at h63; omega
  rcases hx.form hsz with ⟨rfl, rfl, xao, xc, rfl, _, hx0⟩ | ⟨xg, xo, xc, hmpos, rfl, hmc, _, hl, hnews⟩
  · -- nothing is appended
    obtain ⟨hl0, hE0, ⟨rfl, rfl⟩ | ⟨g, cap, cur, rfl, hg, hnc, hcm, hcs, htake, hcE⟩⟩ := hown
    · obtain rfl : xs = [] := List.eq_nil_of_length_eq_zero (by simpa using hl0)
      refine ⟨none, 0, w, ?_, ⟨by simp, by simp, .inl ⟨rfl, rfl⟩⟩, Mod.refl _ _, .inl rfl⟩
      cases xao <;> simp [Builtin.append_, run_underlying ht, sizeOf, typeInfo, hi, Builtin.lenOf, Builtin.firstCells, loadCells, loadCellsFrom]
    · refine ⟨some ⟨g, 0, none⟩, cap, w, ?_, ⟨by simpa using hl0, by simpa using hE0, .inr ⟨g, cap, cur, rfl, hg, hnc, hcm, hcs, by simpa using htake, hcE⟩⟩, Mod.refl _ _, .inl rfl⟩
      cases xao <;> simp [Builtin.append_, run_underlying ht, sizeOf, typeInfo, hi, Builtin.lenOf, Builtin.firstCells, hnc, storeCells, loadCells, loadCellsFrom]
  · have hnews' : ∀ j u, news[j]? = some u → w.cell? ((⟨xg, xo, none⟩ : Addr).add j) = some u := fun j u hu => by rw [add_mk]; exact hnews j u hu
    have hlen : (xs ++ news).length = (n + m) * i.size := by rw [List.length_append, hown.1, hl, Nat.add_mul]
    have hEall : ∀ u ∈ xs ++ news, E u := fun u hu => (List.mem_append.1 hu).elim (hown.2.1 u) (hE u)
    have grown : ∀ (old : Nat), old < n + m →
        Own E e i.size (w.drew.alloc (.cells (xs.toArray ++ news.toArray ++ Builtin.zeroCells z.cells (grownCap w (n + m) old e - (n + m))) e)) (.slice (some ⟨w.heap.size, 0, none⟩) (n + m) (grownCap w (n + m) old e)) (n + m) (xs ++ news) ∧
        Mod (fun k => some k = v.ownBlock) w (w.drew.alloc (.cells (xs.toArray ++ news.toArray ++ Builtin.zeroCells z.cells (grownCap w (n + m) old e - (n + m))) e)) := by
      intro old ho
      have hge := grownCap_ge w (n + m) old e
      have hcm : grownCap w (n + m) old e ≤ maxLen := grownCap_le_maxLen w (n + m) old e h63
      refine ⟨⟨hlen, hEall, .inr ⟨w.heap.size, _, _, rfl, heap_alloc_new w.drew _, hge, hcm, ?_, ?_, ?_⟩⟩, ((Mod.refl _ _).drew).alloc _⟩
      · simp only [Array.size_append, List.size_toArray, size_zeroCells, hzs, hown.1, hl, ← Nat.add_mul]
        rw [show n + m + (grownCap w (n + m) old e - (n + m)) = grownCap w (n + m) old e by omega]
        exact Nat.le_refl _
      · simp only [Array.toList_append, List.append_assoc]
        rw [← List.append_assoc, ← hlen]
        exact List.take_left
      · intro u hu
        simp only [Array.toList_append] at hu
        rcases List.mem_append.1 hu with h | h
        · exact hEall u h
        · obtain ⟨q, hq, he⟩ := List.getElem_of_mem h
          have : u ∈ z.cells.toList := by
            have h' : u ∈ Builtin.zeroCells z.cells (grownCap w (n + m) old e - (n + m)) := Array.mem_toList_iff.1 h
            simp only [Builtin.zeroCells] at h'
            simp at h'
            obtain ⟨q2, _, h'⟩ := h'
            have hq2 : q2 % z.cells.size < z.cells.size := Nat.mod_lt _ (by omega)
            rw [getElem!_pos z.cells (q2 % z.cells.size) hq2] at h'
            exact h' ▸ Array.mem_toList_iff.2 (Array.getElem_mem hq2)
          exact hzE u this
    obtain ⟨hl0, hE0, ⟨rfl, rfl⟩ | ⟨g, cap, cur, rfl, hg, hnc, hcm, hcs, htake, hcE⟩⟩ := hown
    · have hx0 : xs = [] := List.eq_nil_of_length_eq_zero (by simpa using hl0)
      subst hx0
      by_cases hm : m = 0
      · subst hm
        have hn : news = [] := List.eq_nil_of_length_eq_zero (by simpa using hl)
        subst hn
        refine ⟨none, 0, w, ?_, ⟨by simp, by simp, .inl ⟨rfl, rfl⟩⟩, Mod.refl _ _, .inl rfl⟩
        simp [Builtin.append_, run_underlying ht, sizeOf, typeInfo, hi, Builtin.lenOf, Builtin.firstCells, loadCells, loadCellsFrom]
      · have hr := run_append_nil (P := P) w t ty e i z ht hi hz ⟨xg, xo, none⟩ m xc news hl hnews' (by omega) (by omega) (by have hb := hbytes; simp only [Nat.zero_add] at hb; omega)
        have hgr := grown 0 (by omega)
        simp only [Nat.zero_add, List.nil_append, Array.empty_append] at hgr hr ⊢
        exact ⟨_, _, _, hr, hgr.1, hgr.2, .inr ⟨_, rfl, Nat.le_refl _⟩⟩
    · by_cases hroom : n + m ≤ cap
      · have hfit : n * i.size + news.length ≤ cur.size := by rw [hl, ← Nat.add_mul]; exact Nat.le_trans (Nat.mul_le_mul_right _ hroom) hcs
        have hr := run_append_room (P := P) w t ty e i ht hi g n cap cur hg ⟨xg, xo, none⟩ m xc news hl hnews' h1 hroom hfit
        refine ⟨_, _, _, hr, ⟨hlen, hEall, .inr ⟨g, cap, _, rfl, setRow_heap w g cur _ e _ hg, hroom, hcm, ?_, ?_, ?_⟩⟩, ⟨rfl, rfl, rfl, by simp, fun k _ hk => setRow_other w g k _ (fun e => hk (by simp [Value.ownBlock, e]))⟩, .inl rfl⟩
        · simp only [List.size_toArray, List.length_append, List.length_take, List.length_drop, Array.length_toList]
          omega
        · rw [htake, ← hlen]
          exact List.take_left
        · intro u hu
          simp only [List.mem_append] at hu
          rcases hu with (h | h) | h
          · exact hcE u (List.mem_of_mem_take h)
          · exact hE u h
          · exact hcE u (List.mem_of_mem_drop h)
      · have holds : ∀ j u, xs[j]? = some u → w.cell? ((⟨g, 0, none⟩ : Addr).add j) = some u := by
          intro j u hu
          rw [add_mk, Nat.zero_add, hg.cell]
          have hj : j < n * i.size := by have := (List.getElem?_eq_some_iff.1 hu).1; omega
          rw [← htake, List.getElem?_take, if_pos hj] at hu
          simpa using hu
        have hr := run_append_grow (P := P) w t ty e i z ht hi hz ⟨g, 0, none⟩ n cap xs hl0 holds ⟨xg, xo, none⟩ m xc news hl hnews' (by omega) (by omega) (growslice_fits (by omega) hbytes)
        have hgr := grown cap (by omega)
        exact ⟨_, _, _, hr, hgr.1, hgr.2, .inr ⟨_, rfl, Nat.le_refl _⟩⟩

theorem wpList_append {P : Program} {E : Value → Prop} {w : World} {ops : Array Oper} {rest : List Oper} {o : Oper} {a : Act} {Q : Exit → Act → World → Prop} (hgd : o.guard = none) (s x : Operand) (t : TypeId)
    (ho : o.op = .call { callee := .builtin .append, args := #[s, x], argTypes := #[t, t] })
    (e : TypeId) (i : TypeInfo) (z : Value) (size bytes : Nat) (ht : P.underlying t = some (.slice e)) (hi : P.info? e = some i) (hz : i.zero = some z)
    (hsize : i.size = size) (hby : i.bytes = bytes) (hzs : z.cells.size = size) (hsz : 0 < size) (hzE : ∀ u ∈ z.cells.toList, E u)
    (v : Value) (n : Nat) (xs : List Value) (hs : a.eval s = v) (hown : Own E e size w v n xs)
    (xv : Value) (m : Nat) (news : List Value) (hx : a.eval x = xv) (hrd : Rd size w xv m news) (hE : ∀ u ∈ news, E u) (h1 : ∀ u ∈ news, u.oneCell' = true)
    (hbytes : (n + m) * bytes ≤ 140737488355328) (h63 : n + m ≤ maxLen)
    (h : ∀ ao cap w', Appended E e size w v (n + m) (xs ++ news) ao cap w' → wpList P ops Q rest (a.put o.dst (.slice ao (n + m) cap)) w') : wpList P ops Q (o :: rest) a w := by
  obtain ⟨ao, cap, w', hr, h2⟩ := run_append (P := P) w t o.type e i z size bytes ht hi hz hsize hby hzs hsz hzE v n xs hown xv m news hrd hE h1 hbytes h63
  refine wpList_plain hgd fun K hK => ?_
  unfold Oper.wp execOp
  simp only [ho, resolve, invoke, builtin, Sem.run_bind, Sem.run_pure, Result.andThen_ok, List.map_toArray, List.map_cons, List.map_nil, hs, hx, hr]
  exact hK _ _ (h ao cap w' h2)

end Go.Gv

/- Whole aggregates in memory: read, written, held against each other. No program here. -/
namespace Go.Gv
open Go Go.RowKit

def aggDesc : TypeDesc → Bool | .struct _ | .array _ _ => true | _ => false

theorem run_loadA {P : Program} (w : World) (ty : TypeId) (d : TypeDesc) (hu : P.underlying ty = some d) (hd : aggDesc d = true) (ad : Addr) (cs : List Value)
    (hi : (P.info? ty).map (·.size) = some cs.length) (hc : ∀ j u, cs[j]? = some u → w.cell? (ad.add j) = some u) : (loadVar ty ad).run P w = .ok (.agg cs.toArray) w := by
  have hl := run_loadCells_list (P := P) w ad cs hc
  cases hq : P.info? ty with
  | none => simp [hq] at hi
  | some i =>
    have hs : i.size = cs.length := by simpa [hq] using hi
    have hagg : (isAgg ty).run P w = .ok true w := by
      unfold isAgg
      rw [Sem.run_bind, run_underlying hu w]
      cases d <;> simp_all [aggDesc]
    simp [loadVar, Sem.run_bind, hagg, sizeOf, typeInfo, hq, hs, hl]

theorem wpList_loadA {P : Program} {ops : Array Oper} {rest : List Oper} {o : Oper} {a : Act} {w : World} {Q : Exit → Act → World → Prop} (hgd : o.guard = none) (ty : TypeId) (x : Operand) (ho : o.op = .load ty x)
    {d : TypeDesc} (hu : P.underlying ty = some d) (hd : aggDesc d = true) {g off : Nat} {cs : List Value} (hi : (P.info? ty).map (·.size) = some cs.length)
    (hx : a.eval x = .pointer (some ⟨g, off, none⟩)) (hc : ∀ j u, cs[j]? = some u → w.cell? ⟨g, off + j, none⟩ = some u)
    (h : wpList P ops Q rest (a.put o.dst (.agg cs.toArray)) w) : wpList P ops Q (o :: rest) a w := by
  refine wpList_plain hgd fun K hK => ?_
  have hr := run_loadA (P := P) w ty d hu hd ⟨g, off, none⟩ cs hi (fun j u hj => by rw [add_mk]; exact hc j u hj)
  unfold Oper.wp execOp
  simp only [ho, hx, Instr.loadAt, Instr.sureAddr, Sem.run_bind, Sem.run_pure, Result.andThen_ok, hr]
  exact hK _ _ h

/-- cs laid over c from o on -/
def lay (c : Array Value) (o : Nat) (vs : List Value) : Array Value := (c.toList.take o ++ vs ++ c.toList.drop (o + vs.length)).toArray

theorem lay_whole (c : Array Value) (vs : List Value) (h : c.size = vs.length) : lay c 0 vs = vs.toArray := by
  simp [lay, List.drop_of_length_le, h]

theorem run_storeA {P : Program} (w : World) (ty : TypeId) {g off : Nat} {c : Array Value} {e : TypeId} (hc : Cs w g c e) (vs : List Value) (v : Value) (hv : v.cells = vs.toArray)
    (hi : (P.info? ty).map (·.size) = some vs.length) (h1 : ∀ u ∈ vs, u.oneCell' = true) (hfit : off + vs.length ≤ c.size) :
    (storeVar ty ⟨g, off, none⟩ v).run P w = .ok () (w.setRow g (lay c off vs)) := by
  have hst := run_storeCells_at P g off e vs 0 c w hc (by simpa using hfit) h1
  cases hq : P.info? ty with
  | none => simp [hq] at hi
  | some i =>
    have hs : i.size = vs.length := by simpa [hq] using hi
    simp only [Nat.add_zero] at hst
    simp [storeVar, sizeOf, typeInfo, hq, hs, hv, hst, lay]

theorem wpList_storeA {P : Program} {ops : Array Oper} {rest : List Oper} {o : Oper} {a : Act} {w : World} {Q : Exit → Act → World → Prop} (hgd : o.guard = none) (ty : TypeId) (x y : Operand) (ho : o.op = .store ty x y)
    {g off : Nat} {c : Array Value} {e : TypeId} (hc : Cs w g c e) {vs : List Value} (hi : (P.info? ty).map (·.size) = some vs.length) (h1 : ∀ u ∈ vs, u.oneCell' = true) (hfit : off + vs.length ≤ c.size)
    (hx : a.eval x = .pointer (some ⟨g, off, none⟩)) (hy : (a.eval y).cells = vs.toArray)
    (h : ∀ w', Cs w' g (lay c off vs) e → Mod (fun k => k = g) w w' → wpList P ops Q rest (a.put o.dst (.tuple #[])) w') : wpList P ops Q (o :: rest) a w := by
  refine wpList_plain hgd fun K hK => ?_
  have hr := run_storeA (P := P) w ty hc vs (a.eval y) hy hi h1 hfit
  unfold Oper.wp execOp
  simp only [ho, hx, Instr.storeAt, Instr.sureAddr, Sem.run_bind, Sem.run_pure, Result.andThen_ok, hr]
  exact hK _ _ (h _ (setRow_heap w g c (lay c off vs) e _ hc) ⟨rfl, rfl, rfl, by simp [World.setRow], fun k _ hk => setRow_other w g k _ hk⟩)

theorem results_cellA {P : Program} {fn : Func} {p : Tmp} {ty : TypeId} (h : fn.results = #[.cell p ty]) (tmps : Array Value) (w : World) (g : Nat) (cs : List Value) {d : TypeDesc}
    (hp : tmps.getD p undef = .pointer (some ⟨g, 0, none⟩)) (hc : ∀ j u, cs[j]? = some u → w.cell? ⟨g, j, none⟩ = some u)
    (hu : P.underlying ty = some d) (hd : aggDesc d = true) (hi : (P.info? ty).map (·.size) = some cs.length) :
    (results fn tmps).run P w = .ok (.agg cs.toArray) w := by
  have hp' : tmps[p]?.getD undef = .pointer (some ⟨g, 0, none⟩) := by simpa using hp
  simp [results, h, hp', asAddr, run_loadA w ty d hu hd ⟨g, 0, none⟩ cs hi (fun j u hu => by rw [add_mk, Nat.zero_add]; exact hc j u hu)]

theorem all_range_eqI : ∀ (xs ys : List Int), xs.length = ys.length → ((List.range xs.length).all fun i => xs.getD i 0 == ys.getD i 0) = decide (xs = ys)
  | [], [], _ => rfl
  | x :: xs, y :: ys, h => by
    have ih := all_range_eqI xs ys (by simpa using h)
    rw [List.length_cons, List.range_succ_eq_map, List.all_cons, List.all_map]
    simp only [List.getD_cons_zero, Function.comp_def, List.getD_cons_succ, ih]
    by_cases hx : x = y <;> simp [hx]
  | [], _ :: _, h => by simp at h
  | _ :: _, [], h => by simp at h

theorem run_equalIn_ints {P : Program} (w : World) (d : Nat) (t e : TypeId) (n : Nat) {k : IntKind} (ht : P.underlying t = some (.array n e)) (he : P.underlying e = some (.int k)) (hsz : (P.info? e).map (·.size) = some 1)
    (xs ys : List Int) (hx : xs.length = n) (hy : ys.length = n) :
    (Op.equalIn (d + 2) t (.agg (xs.map (Value.int k)).toArray) (.agg (ys.map (Value.int k)).toArray)).run P w = .ok (decide (xs = ys)) w := by
  have hsz' : (sizeOf e).run P w = .ok 1 w := by
    cases hq : P.info? e with
    | none => simp [hq] at hsz
    | some i => have : i.size = 1 := by simpa [hq] using hsz
                simp [sizeOf, typeInfo, hq, this]
  rw [← all_range_eqI xs ys (hx.trans hy.symm), hx, List.range_eq_range', Op.equalIn]
  simp only [Sem.run_bind, run_underlying ht, Result.andThen_ok, hsz', Std.Legacy.Range.forIn_eq_forIn_range', Std.Legacy.Range.size, Nat.sub_zero, Nat.add_sub_cancel, Nat.div_one]
  have hl : ∀ i ∈ List.range' 0 n 1, i < n := fun i hi => by simpa using (List.mem_range'_1.1 hi).2
  generalize List.range' 0 n 1 = l at hl ⊢
  induction l with
  | nil => simp
  | cons i l ih =>
    have hi : i < n := hl i (by simp)
    have px : (part e (xs.map (Value.int k)).toArray (i * 1)).run P w = .ok (.int k (xs.getD i 0)) w := by
      simp [part, isAgg, run_underlying he, List.getD, List.getElem?_eq_getElem (show i < xs.length by omega)]
    have py : (part e (ys.map (Value.int k)).toArray (i * 1)).run P w = .ok (.int k (ys.getD i 0)) w := by
      simp [part, isAgg, run_underlying he, List.getD, List.getElem?_eq_getElem (show i < ys.length by omega)]
    have pe : (Op.equalIn (d + 1) e (.int k (xs.getD i 0)) (.int k (ys.getD i 0))).run P w = .ok (xs.getD i 0 == ys.getD i 0) w := run_equalIn_int w d e k k _ _ he
    simp only [List.forIn_cons, Sem.run_bind, px, py, pe, Result.andThen_ok, List.all_cons]
    cases hb : (xs.getD i 0 == ys.getD i 0)
    · simp
    · simp only [Bool.not_true, Bool.false_eq_true, if_false, Sem.run_pure, Result.andThen_ok, Bool.true_and]
      exact ih fun j hj => hl j (by simp [hj])

theorem run_eql_ints {P : Program} (w : World) (t e : TypeId) (n : Nat) {k : IntKind} (ht : P.underlying t = some (.array n e)) (he : P.underlying e = some (.int k)) (hsz : (P.info? e).map (·.size) = some 1)
    (xs ys : List Int) (hx : xs.length = n) (hy : ys.length = n) :
    (binOp .eql t (.agg (xs.map (Value.int k)).toArray) (.agg (ys.map (Value.int k)).toArray)).run P w = .ok (.bool (decide (xs = ys))) w := by
  rw [run_eql_struct, run_equalIn_ints w 9998 t e n ht he hsz xs ys hx hy]; rfl
theorem run_neq_ints {P : Program} (w : World) (t e : TypeId) (n : Nat) {k : IntKind} (ht : P.underlying t = some (.array n e)) (he : P.underlying e = some (.int k)) (hsz : (P.info? e).map (·.size) = some 1)
    (xs ys : List Int) (hx : xs.length = n) (hy : ys.length = n) :
    (binOp .neq t (.agg (xs.map (Value.int k)).toArray) (.agg (ys.map (Value.int k)).toArray)).run P w = .ok (.bool (!decide (xs = ys))) w := by
  rw [run_neq_struct, run_equalIn_ints w 9998 t e n ht he hsz xs ys hx hy]; rfl
end Go.Gv

/- Things of many kinds, as cells (Rep); slices of them, read (RdS) or appended to (OwS). Pieces of a block's cells. No program here. -/
set_option linter.unusedVariables false
namespace Go.Gv
open Go Go.RowKit

section
variable {w : World} {g : Nat} {T : TypeId} {pre mid post cs M : List Value} {off k m : Nat} {u : Value}
theorem Cs.hd1 (h : Cs w g (pre ++ mid).toArray T) (hu : pre[off]? = some u) : w.cell? ⟨g, off, none⟩ = some u := by
  rw [h.cell]
  simp only [List.getElem?_toArray]
  rw [List.getElem?_append_left (List.getElem?_eq_some_iff.1 hu).1]
  exact hu
end

theorem Rd.keepc {s : Nat} {w w' : World} {v : Value} {n : Nat} {cs : List Value} (h : Rd s w v n cs) (hk : 0 < n → ∀ g, v.ownBlock = some g → ∀ p u, p.block = g → w.cell? p = some u → w'.cell? p = some u) : Rd s w' v n cs := by
  obtain ⟨hl, ao, cap, rfl, h1, h2, h3, h4⟩ := h
  refine ⟨hl, ao, cap, rfl, h1, h2, h3, fun x hx j u hu => ⟨(h4 x hx j u hu).1, ?_⟩⟩
  have hc := (h4 x hx j u hu).2
  have hn : 0 < n := by
    rcases Nat.eq_zero_or_pos n with rfl | h
    · have : cs = [] := List.eq_nil_of_length_eq_zero (by simpa using hl)
      subst this; simp at hu
    · exact h
  have hb : (x.add j).block = x.block := by unfold Addr.add; split <;> rfl
  subst hx
  exact hk hn x.block rfl _ _ hb hc
theorem Rd.lt {s : Nat} {w : World} {v : Value} {n : Nat} {cs : List Value} (h : Rd s w v n cs) (hs : 0 < s) (hn : 0 < n) {g : Nat} (hg : v.ownBlock = some g) : g < w.heap.size := by
  rcases h.form hs with ⟨h0, _⟩ | ⟨g', o, cap, _, rfl, _, _, hl, hc⟩
  · omega
  · simp [Value.ownBlock] at hg
    subst hg
    have hpos : 0 < cs.length := by rw [hl]; exact Nat.mul_pos hn hs
    exact World.block_lt_of_cell? _ _ (hc 0 _ (List.getElem?_eq_getElem hpos))

/-- a kind of things: how many cells one has; which cells are one, in a world; what it holds lies in blocks of R -/
structure Rep (α : Type) where
  sz : Nat
  pos : 0 < sz
  rd : (Nat → Prop) → World → List Value → α → Prop
  len : ∀ {R w cs a}, rd R w cs a → cs.length = sz
  one : ∀ {R w cs a}, rd R w cs a → ∀ u ∈ cs, u.oneCell' = true
  keep : ∀ {R w w' cs a}, rd R w cs a → (∀ p u, R p.block → w.cell? p = some u → w'.cell? p = some u) → rd R w' cs a
  wid : ∀ {R R' : Nat → Prop} {w cs a}, rd R w cs a → (∀ k, R k → R' k) → rd R' w cs a
  tight : ∀ {R w cs a}, rd R w cs a → rd (fun k => R k ∧ k < w.heap.size) w cs a
namespace Rep
variable {α : Type} {A : Rep α} {R R' S : Nat → Prop} {w w' : World} {cs : List Value} {a : α}
theorem mod (h : A.rd R w cs a) (hm : Mod S w w') (hs : ∀ k, R k → S k → False) : A.rd R w' cs a := A.keep h fun p u hp hc => hm.cell hc (fun hS => hs _ hp hS)
end Rep
theorem Rep.rd.mod {α : Type} {A : Rep α} {R S : Nat → Prop} {w w' : World} {cs : List Value} {a : α} (h : A.rd R w cs a) (hm : Mod S w w') (hs : ∀ k, R k → S k → False) : A.rd R w' cs a := Rep.mod h hm hs
theorem Rep.rd.widen {α : Type} {A : Rep α} {R R' : Nat → Prop} {w : World} {cs : List Value} {a : α} (h : A.rd R w cs a) (hs : ∀ k, R k → R' k) : A.rd R' w cs a := A.wid h hs
/-- cells in the middle of a block -/
def CellsAt (R : Nat → Prop) (w : World) (g off : Nat) (cs : List Value) : Prop := R g ∧ ∀ j u, cs[j]? = some u → w.cell? ⟨g, off + j, none⟩ = some u
theorem CellsAt.mod {R S : Nat → Prop} {w w' : World} {g off : Nat} {cs : List Value} (h : CellsAt R w g off cs) (hm : Mod S w w') (hs : ∀ k, R k → S k → False) : CellsAt R w' g off cs := ⟨h.1, fun j u hu => hm.cell (h.2 j u hu) (hs _ h.1)⟩
/-- a flat kind: its cells say it all -/
def Rep.flat {α : Type} (sz : Nat) (hp : 0 < sz) (cells : α → List Value) (ok : α → Prop) (hl : ∀ a, ok a → (cells a).length = sz) (h1 : ∀ a, ok a → ∀ u ∈ cells a, u.oneCell' = true) : Rep α where
  sz := sz
  pos := hp
  rd _ _ cs a := cs = cells a ∧ ok a
  len h := by rw [h.1]; exact hl _ h.2
  one h := by rw [h.1]; exact h1 _ h.2
  keep h _ := h
  wid h _ := h
  tight h := h

/-- a slice of things, read -/
def RdS {α : Type} (A : Rep α) (R : Nat → Prop) (w : World) (v : Value) (l : List α) : Prop :=
  ∃ css : List (List Value), css.length = l.length ∧ (∀ (i : Nat) cs a, css[i]? = some cs → l[i]? = some a → A.rd R w cs a) ∧ Rd A.sz w v l.length css.flatten ∧ (0 < l.length → ∀ g, v.ownBlock = some g → R g)
/-- a slice of things that may be appended to: its own block is one of R, what its things hold lies in others, of E -/
def OwS {α : Type} (A : Rep α) (e : TypeId) (R E : Nat → Prop) (w : World) (v : Value) (l : List α) : Prop :=
  ∃ css : List (List Value), css.length = l.length ∧ (∀ (i : Nat) cs a, css[i]? = some cs → l[i]? = some a → A.rd (fun k => E k ∧ v.ownBlock ≠ some k) w cs a) ∧ Own (fun u => u.oneCell' = true) e A.sz w v l.length css.flatten ∧ ∀ g, v.ownBlock = some g → R g
section
variable {α : Type} {A : Rep α} {e : TypeId} {R R' S : Nat → Prop} {w w' : World} {v : Value} {l : List α}
theorem flat_get {css : List (List Value)} {s : Nat} (h : ∀ cs ∈ css, cs.length = s) : ∀ (i : Nat) (cs : List Value), css[i]? = some cs → ∀ j u, cs[j]? = some u → css.flatten[i * s + j]? = some u := by
  induction css with
  | nil => intro i cs hi; simp at hi
  | cons c r ih =>
    intro i cs hi j u hu
    have hc : c.length = s := h c (by simp)
    cases i with
    | zero =>
      simp at hi
      subst hi
      rw [List.flatten_cons, Nat.zero_mul, Nat.zero_add, List.getElem?_append_left (List.getElem?_eq_some_iff.1 hu).1]
      exact hu
    | succ i =>
      simp at hi
      rw [List.flatten_cons, List.getElem?_append_right (by rw [hc, Nat.succ_mul]; omega), hc, show (i + 1) * s + j - s = i * s + j by rw [Nat.succ_mul]; omega]
      exact ih (fun x hx => h x (by simp [hx])) i cs hi j u hu
theorem flat_len {css : List (List Value)} {s : Nat} (h : ∀ cs ∈ css, cs.length = s) : css.flatten.length = css.length * s := by
  induction css with
  | nil => simp
  | cons c r ih => rw [List.flatten_cons, List.length_append, ih (fun x hx => h x (by simp [hx])), h c (by simp), List.length_cons, Nat.succ_mul]; omega
theorem css_len {css : List (List Value)} {P : List Value → α → Prop} (hl : css.length = l.length) (hP : ∀ (i : Nat) cs a, css[i]? = some cs → l[i]? = some a → P cs a) {s : Nat} (hs : ∀ cs a, P cs a → cs.length = s) : ∀ cs ∈ css, cs.length = s := by
  intro cs hcs
  obtain ⟨i, hi⟩ := List.getElem?_of_mem hcs
  have h1 := (List.getElem?_eq_some_iff.1 hi).1
  exact hs cs _ (hP i cs l[i] hi (List.getElem?_eq_getElem (by omega)))
theorem RdS.shape (h : RdS A R w v l) : ∃ ao cap, v = .slice ao l.length cap := by
  obtain ⟨css, _, _, ⟨_, ao, cap, e, _⟩, _⟩ := h; exact ⟨ao, cap, e⟩
theorem RdS.keep (h : RdS A R w v l) (hk : ∀ p u, R p.block → w.cell? p = some u → w'.cell? p = some u) : RdS A R w' v l := by
  obtain ⟨css, h1, h2, h3, h4⟩ := h
  exact ⟨css, h1, fun i cs a hi hl => A.keep (h2 i cs a hi hl) hk, h3.keepc fun h0 g hg p u hp hc => hk p u (hp ▸ h4 h0 g hg) hc, h4⟩
theorem RdS.mod (h : RdS A R w v l) (hm : Mod S w w') (hs : ∀ k, R k → S k → False) : RdS A R w' v l := h.keep fun p u hp hc => hm.cell hc (fun hS => hs _ hp hS)
theorem RdS.widen (h : RdS A R w v l) (hs : ∀ k, R k → R' k) : RdS A R' w v l := by
  obtain ⟨css, h1, h2, h3, h4⟩ := h
  exact ⟨css, h1, fun i cs a hi hl => A.wid (h2 i cs a hi hl) hs, h3, fun h0 g hg => hs g (h4 h0 g hg)⟩
theorem RdS.tight (h : RdS A R w v l) : RdS A (fun k => R k ∧ k < w.heap.size) w v l := by
  obtain ⟨css, h1, h2, h3, h4⟩ := h
  exact ⟨css, h1, fun i cs a hi hl => A.tight (h2 i cs a hi hl), h3, fun h0 g hg => ⟨h4 h0 g hg, h3.lt A.pos h0 hg⟩⟩
theorem RdS.nil (A : Rep α) (R : Nat → Prop) (w : World) : RdS A R w (.slice none 0 0) [] := ⟨[], rfl, (fun i cs a h => by simp at h), Rd.nil _ _, fun h => by simp at h⟩
/-- its i-th thing's cells -/
theorem RdS.at {ao : Option Addr} {n cap : Nat} (h : RdS A R w (.slice ao n cap) l) {i : Nat} (hi : i < l.length) : ∃ g o cs, ao = some ⟨g, o, none⟩ ∧ R g ∧ A.rd R w cs l[i] ∧ ∀ j u, cs[j]? = some u → w.cell? ⟨g, o + i * A.sz + j, none⟩ = some u := by
  obtain ⟨css, h1, h2, h3, h4⟩ := h
  rcases h3.form A.pos with ⟨h0, _⟩ | ⟨g, o, cap', h0, e, _, _, hl, hc⟩
  · omega
  · simp only [Value.slice.injEq] at e
    obtain ⟨rfl, rfl, rfl⟩ := e
    have hi2 : i < css.length := by omega
    refine ⟨g, o, css[i], rfl, h4 h0 g rfl, h2 i _ _ (List.getElem?_eq_getElem hi2) (List.getElem?_eq_getElem hi), fun j u hu => ?_⟩
    have := flat_get (css_len h1 h2 (fun cs a h => A.len h)) i _ (List.getElem?_eq_getElem hi2) j u hu
    rw [Nat.add_assoc]
    exact hc _ _ this
/-- its first things -/
theorem RdS.upto {ao : Option Addr} {n cap : Nat} (h : RdS A R w (.slice ao n cap) l) (k : Nat) (hk : k ≤ l.length) : RdS A R w (.slice ao k cap) (l.take k) := by
  obtain ⟨css, h1, h2, ⟨hl, ao', cap', e, g1, g2, g3, g4⟩, h4⟩ := h
  simp only [Value.slice.injEq] at e
  obtain ⟨rfl, rfl, rfl⟩ := e
  have hcl := css_len h1 h2 (fun cs a h => A.len h)
  have el : (l.take k).length = k := by simp; omega
  have ef : (css.take k).flatten = css.flatten.take (k * A.sz) := by
    have h5 : css.flatten = (css.take k).flatten ++ (css.drop k).flatten := by rw [← List.flatten_append, List.take_append_drop]
    have h6 : (css.take k).flatten.length = k * A.sz := by rw [flat_len (fun x hx => hcl x (List.mem_of_mem_take hx))]; congr 1; simp; omega
    rw [h5, ← h6, List.take_left]
  refine ⟨css.take k, by simp; omega, fun i cs a hi ha => ?_, ?_, fun h0 g hg => h4 (by simp at h0; omega) g (by cases ao <;> exact hg)⟩
  · rw [List.getElem?_take] at hi ha
    split at hi
    · rename_i hik
      rw [if_pos hik] at ha
      exact h2 i cs a hi ha
    · cases hi
  · rw [el, ef]
    refine ⟨?_, ao, cap, rfl, by omega, g2, g3, fun x hx j u hu => g4 x hx j u ?_⟩
    · rw [List.length_take, flat_len hcl, h1]
      exact Nat.min_eq_left (Nat.mul_le_mul_right _ hk)
    · rw [List.getElem?_take] at hu
      split at hu
      · exact hu
      · cases hu
theorem OwS.rd {E : Nat → Prop} (h : OwS A e R E w v l) : RdS A (fun k => R k ∨ E k) w v l := by
  obtain ⟨css, h1, h2, h3, h4⟩ := h
  exact ⟨css, h1, fun i cs a hi hl => A.wid (h2 i cs a hi hl) (fun k hk => Or.inr hk.1), Own.rd h3, fun _ g hg => Or.inl (h4 g hg)⟩
theorem OwS.shape {E : Nat → Prop} (h : OwS A e R E w v l) : ∃ ao cap, v = .slice ao l.length cap := h.rd.shape
theorem OwS.mod {E : Nat → Prop} (h : OwS A e R E w v l) (hm : Mod S w w') (hs : ∀ k, R k → S k → False) (hs2 : ∀ k, E k → S k → False) : OwS A e R E w' v l := by
  obtain ⟨css, h1, h2, h3, h4⟩ := h
  exact ⟨css, h1, fun i cs a hi hl => Rep.mod (h2 i cs a hi hl) hm (fun k hk => hs2 k hk.1), Own.mod h3 hm (fun g hg hS => hs g (h4 g hg) hS), h4⟩
theorem OwS.widen {E E' : Nat → Prop} (h : OwS A e R E w v l) (hs : ∀ k, R k → R' k) (hs2 : ∀ k, E k → E' k) : OwS A e R' E' w v l := by
  obtain ⟨css, h1, h2, h3, h4⟩ := h
  exact ⟨css, h1, fun i cs a hi hl => A.wid (h2 i cs a hi hl) (fun k hk => ⟨hs2 k hk.1, hk.2⟩), h3, fun g hg => hs g (h4 g hg)⟩
theorem OwS.nil (A : Rep α) (e : TypeId) (R E : Nat → Prop) (w : World) : OwS A e R E w (.slice none 0 0) [] := ⟨[], rfl, (fun i cs a h => by simp at h), Own.nil _ _ _ _, fun g hg => by cases hg⟩
/-- one thing in a block of its own, as a slice -/
theorem RdS.single {g : Nat} {T : TypeId} {cs : List Value} {a : α} (hc : Cs w g cs.toArray T) (ha : A.rd R w cs a) (hg : R g) : RdS A R w (.slice (some ⟨g, 0, none⟩) 1 1) [a] := by
  refine ⟨[cs], rfl, fun i c b hi hb => ?_, ?_, fun _ g' hg' => by cases hg'; exact hg⟩
  · cases i with
    | zero => simp at hi hb; subst hi hb; exact ha
    | succ i => simp at hi
  · have hl := A.len ha
    refine Rd.mk (Nat.le_refl _) (by rw [maxLen_val]; omega) (by simp [hl]) fun j u hu => ?_
    rw [Nat.zero_add, hc.cell]
    simpa using hu

theorem run_appS {P : Program} {E R2 : Nat → Prop} (w : World) (t ty e : TypeId) (z : Value) (bytes : Nat) (ht : P.underlying t = some (.slice e)) (hinfo : (P.info? e).map (fun i => (i.zero, i.size, i.bytes)) = some (some z, A.sz, bytes)) (hzs : z.cells.size = A.sz) (hzE : ∀ u ∈ z.cells.toList, u.oneCell' = true)
    {v xv : Value} {new : List α} (hown : OwS A e R E w v l) (hrd : RdS A R2 w xv new) (hd : ∀ k, R2 k → v.ownBlock ≠ some k) (hbytes : (l.length + new.length) * bytes ≤ 140737488355328) (h63 : l.length + new.length ≤ maxLen) :
    ∃ ao cap w', (Builtin.append_ #[t, t] ty #[v, xv]).run P w = .ok (.slice ao (l.length + new.length) cap) w' ∧ OwS A e (fun k => R k ∨ (w.heap.size ≤ k ∧ k < w'.heap.size)) (fun k => E k ∨ R2 k) w' (.slice ao (l.length + new.length) cap) (l ++ new) ∧ Mod R w w' := by
  obtain ⟨i0, hi, hz0, hz1, hz2⟩ := info_parts hinfo
  obtain ⟨css, h1, h3, h4, h5⟩ := hown
  obtain ⟨css2, k1, k2, k3, k4⟩ := hrd
  have hone : ∀ u ∈ css2.flatten, u.oneCell' = true := by
    intro u hu
    obtain ⟨cs, hcs, hu⟩ := List.mem_flatten.1 hu
    obtain ⟨i, hi⟩ := List.getElem?_of_mem hcs
    have h9 := (List.getElem?_eq_some_iff.1 hi).1
    exact A.one (k2 i cs new[i] hi (List.getElem?_eq_getElem (by omega))) u hu
  obtain ⟨ao, cap, w', hr, hown, hm, hb⟩ := run_append (P := P) w t ty e i0 z A.sz bytes ht hi hz0 hz1 hz2 hzs A.pos hzE v l.length css.flatten h4 xv new.length css2.flatten k3 hone hone hbytes h63
  have hnb : ∀ k, k < w.heap.size → v.ownBlock ≠ some k → (Value.slice ao (l.length + new.length) cap).ownBlock ≠ some k := by
    intro k hk hne he
    rcases hb with hb | ⟨k', hb, hk'⟩
    · exact hne (hb ▸ he)
    · rw [hb] at he; cases he; omega
  refine ⟨ao, cap, w', hr, ⟨css ++ css2, by simp [h1, k1], fun i cs a hi ha => ?_, ?_, fun g hg => ?_⟩, hm.mono fun k _ hk => h5 k hk.symm⟩
  · by_cases hil : i < l.length
    · rw [List.getElem?_append_left (by omega)] at hi ha
      have := Rep.mod (A.tight (h3 i cs a hi ha)) hm (fun k hk hS => hk.1.2 hS.symm)
      exact A.wid this fun k hk => ⟨Or.inl hk.1.1, hnb k hk.2 hk.1.2⟩
    · rw [List.getElem?_append_right (by omega)] at hi ha
      rw [h1] at hi
      have := Rep.mod (A.tight (k2 _ cs a hi ha)) hm (fun k hk hS => hd k hk.1 hS.symm)
      exact A.wid this fun k hk => ⟨Or.inr hk.1, hnb k hk.2 (hd k hk.1)⟩
  · rw [List.length_append, List.flatten_append]
    exact hown
  · rcases hb with hb | ⟨k, hb, hk⟩
    · exact Or.inl (h5 g (hb ▸ hg))
    · rw [hb] at hg
      cases hg
      exact Or.inr ⟨hk, Own.lt hown hb⟩
end
end Go.Gv

/- A region that draws its order, by an invariant: each operation is looked at once, whatever was done before it. No program here. -/
set_option linter.unusedVariables false
namespace Go.Gv
open Go Go.RowKit

def putAll (a : Act) : List Nat → List Value → Act
  | s :: ss, v :: vs => putAll (a.put (some s) v) ss vs
  | _, _ => a

theorem put_tmps (a : Act) (s : Nat) (v : Value) : (a.put (some s) v) = { a with tmps := a.tmps.setIfInBounds s v } := rfl
theorem put_comm (a : Act) {s t : Nat} (h : s ≠ t) (u v : Value) : (a.put (some s) u).put (some t) v = (a.put (some t) v).put (some s) u := by
  simp only [put_tmps, Act.mk.injEq, and_true]
  exact Array.setIfInBounds_comm _ _ h
theorem put_put (a : Act) (s : Nat) (u v : Value) : (a.put (some s) u).put (some s) v = a.put (some s) v := by
  simp [put_tmps]
theorem putAll_put_out : ∀ (ss : List Nat) (vs : List Value) (a : Act) (t : Nat) (v : Value), t ∉ ss → (putAll a ss vs).put (some t) v = putAll (a.put (some t) v) ss vs
  | [], _, _, _, _, _ => rfl
  | _ :: _, [], _, _, _, _ => rfl
  | s :: ss, u :: vs, a, t, v, h => by
    simp only [putAll]
    rw [putAll_put_out ss vs _ t v (fun h' => h (List.mem_cons_of_mem _ h')), put_comm a (fun e => h (by rw [e]; exact List.mem_cons_self))]
theorem putAll_put : ∀ (ss : List Nat) (vs : List Value) (a : Act) (p : Nat) (s : Nat) (v : Value), ss.Nodup → vs.length = ss.length → ss[p]? = some s → (putAll a ss vs).put (some s) v = putAll a ss (vs.set p v)
  | [], _, _, _, _, _, _, _, h => by simp at h
  | _ :: _, [], _, _, _, _, _, h, _ => by simp at h
  | s :: ss, u :: vs, a, 0, t, v, hn, hl, h => by
    simp at h
    subst h
    simp only [putAll, List.set_cons_zero]
    rw [putAll_put_out ss vs _ s v (List.nodup_cons.1 hn).1, put_put]
  | s :: ss, u :: vs, a, p + 1, t, v, hn, hl, h => by
    simp only [putAll, List.set_cons_succ]
    exact putAll_put ss vs _ p t v (List.nodup_cons.1 hn).2 (by simpa using hl) (by simpa using h)
theorem putAll_size : ∀ (ss : List Nat) (vs : List Value) (a : Act), (putAll a ss vs).tmps.size = a.tmps.size
  | [], _, _ => rfl
  | _ :: _, [], _ => rfl
  | s :: ss, u :: vs, a => by simp only [putAll]; rw [putAll_size]; simp [put_tmps]
theorem putAll_out : ∀ (ss : List Nat) (vs : List Value) (a : Act) (t : Nat), t ∉ ss → (putAll a ss vs).tmps[t]? = a.tmps[t]?
  | [], _, _, _, _ => rfl
  | _ :: _, [], _, _, _ => rfl
  | s :: ss, u :: vs, a, t, h => by
    simp only [putAll]
    rw [putAll_out ss vs _ t (fun h' => h (List.mem_cons_of_mem _ h'))]
    simp only [put_tmps]
    rw [Array.getElem?_setIfInBounds_ne (fun e => h (by rw [e]; exact List.mem_cons_self))]
theorem putAll_in : ∀ (ss : List Nat) (vs : List Value) (a : Act) (p s : Nat), ss.Nodup → vs.length = ss.length → ss[p]? = some s → s < a.tmps.size → (putAll a ss vs).tmps[s]? = vs[p]?
  | [], _, _, _, _, _, _, h, _ => by simp at h
  | _ :: _, [], _, _, _, _, h, _, _ => by simp at h
  | s :: ss, u :: vs, a, 0, t, hn, hl, h, hs => by
    simp at h
    subst h
    simp only [putAll]
    rw [putAll_out ss vs _ s (List.nodup_cons.1 hn).1]
    simp [put_tmps, hs]
  | s :: ss, u :: vs, a, p + 1, t, hn, hl, h, hs => by
    simp only [putAll]
    rw [putAll_in ss vs _ p t (List.nodup_cons.1 hn).2 (by simpa using hl) (by simpa using h) (by simpa [put_tmps] using hs)]
    rfl
theorem eval_out (a : Act) (ss : List Nat) (vs : List Value) (t : Nat) (h : t ∉ ss) : (putAll a ss vs).eval (.tmp t) = a.eval (.tmp t) := by
  simp only [Act.eval, Array.getD_eq_getD_getElem?]
  rw [putAll_out ss vs a t h]
theorem eval_in (a : Act) (ss : List Nat) (vs : List Value) (p s : Nat) (v : Value) (hn : ss.Nodup) (hl : vs.length = ss.length) (h : ss[p]? = some s) (hs : s < a.tmps.size) (hv : vs[p]? = some v) : (putAll a ss vs).eval (.tmp s) = v := by
  simp only [Act.eval, Array.getD_eq_getD_getElem?]
  rw [putAll_in ss vs a p s hn hl h hs, hv]
  rfl
theorem putAll_self : ∀ (ss : List Nat) (a : Act), putAll a ss (ss.map fun s => a.tmps.getD s undef) = a
  | [], _ => rfl
  | s :: ss, a => by
    have e : a.put (some s) (a.tmps.getD s undef) = a := by
      obtain ⟨t, d⟩ := a
      simp only [put_tmps, Act.mk.injEq, and_true]
      apply Array.ext
      · simp
      · intro i h1 h2
        rw [Array.getElem_setIfInBounds]
        split
        · rename_i h; subst h; simp [Array.getD, h2]
        · rfl
    simp only [List.map_cons, putAll]
    rw [e]
    exact putAll_self ss a

section
variable {P : Program} {ops : Array Oper} {Q : Exit → Act → World → Prop}
def upd (L : Nat → Bool) (i : Nat) : Nat → Bool := fun j => if j = i then true else L j

theorem wpAny_inv (hac : ∀ i o, ops[i]? = some o → ∀ e ∈ o.after, Region.binds .any e = true → e.on < i) (I : (Nat → Bool) → Act → World → Prop)
    (step : ∀ i o, ops[i]? = some o → ∀ L a w, L i = false → (∀ e ∈ o.after, Region.binds .any e = true → L e.on = true) → I L a w → wpOp P ops Q i (fun a' w' => I (upd L i) a' w') a w)
    (fin : ∀ L a w, (∀ i < ops.size, L i = true) → I L a w → Q .normal a w) :
    ∀ (fuel : Nat) (listed : Array Bool) (a : Act) (w : World), listed.size = ops.size → ((List.range ops.size).filter fun i => !listed.getD i true).length ≤ fuel → I (fun i => listed.getD i false) a w → wpAny P .any ops Q fuel listed a w := by
  have hempty : ∀ listed : Array Bool, listed.size = ops.size → Region.ready .any ops listed = [] → ∀ i < ops.size, listed.getD i false = true := by
    intro listed hs hr i
    induction i using Nat.strongRecOn with
    | ind i ih =>
      intro hi
      cases hl : listed.getD i false with
      | true => rfl
      | false =>
        exfalso
        have : i ∈ Region.ready .any ops listed := by
          unfold Region.ready
          rw [List.mem_filter]
          refine ⟨List.mem_range.2 hi, ?_⟩
          have hl' : listed.getD i true = false := by
            simp [Array.getD, show i < listed.size by omega] at hl ⊢
            exact hl
          rw [hl', Array.getElem?_eq_getElem hi]
          simp only [Bool.not_false, Bool.true_and, Option.map_some, Option.getD_some, Array.all_eq_true_iff_forall_mem, Bool.or_eq_true, Bool.not_eq_true']
          intro e he
          cases hb : Region.binds .any e with
          | false => exact .inl rfl
          | true =>
            have hlt := hac i _ (Array.getElem?_eq_getElem hi) e he hb
            exact .inr (ih e.on hlt (by omega))
        rw [hr] at this
        cases this
  intro fuel
  induction fuel with
  | zero =>
    intro listed a w hs hn hI
    have hr : Region.ready .any ops listed = [] := by
      have h0 : ((List.range ops.size).filter fun i => !listed.getD i true) = [] := List.eq_nil_of_length_eq_zero (by omega)
      unfold Region.ready
      rw [List.filter_eq_nil_iff] at h0 ⊢
      intro i hi h
      simp only [Bool.and_eq_true] at h
      exact h0 i hi h.1
    exact ⟨hr, fin _ a w (hempty listed hs hr) hI⟩
  | succ fuel ih =>
    intro listed a w hs hn hI
    refine ⟨fun hr => fin _ a w (hempty listed hs hr) hI, fun i hi => ?_⟩
    unfold Region.ready at hi
    rw [List.mem_filter] at hi
    obtain ⟨hi, h⟩ := hi
    rw [List.mem_range] at hi
    simp only [Bool.and_eq_true, Bool.not_eq_true'] at h
    rw [Array.getElem?_eq_getElem hi] at h
    simp only [Option.map_some, Option.getD_some, Array.all_eq_true_iff_forall_mem, Bool.or_eq_true, Bool.not_eq_true'] at h
    obtain ⟨hl, hd⟩ := h
    have hlf : listed.getD i false = false := by
      simp [Array.getD, show i < listed.size by omega] at hl ⊢
      exact hl
    refine wpOp_mono ?_ (step i _ (Array.getElem?_eq_getElem hi) _ a w hlf (fun e he hb => ?_) hI)
    · intro a' w' hI'
      refine ih _ a' w' (by simpa using hs) ?_ ?_
      · have hlt : ((List.range ops.size).filter fun j => !(listed.setIfInBounds i true).getD j true).length < ((List.range ops.size).filter fun j => !listed.getD j true).length := by
          have hsub : ((List.range ops.size).filter fun j => !(listed.setIfInBounds i true).getD j true) = ((List.range ops.size).filter fun j => !listed.getD j true).filter (fun j => j != i) := by
            rw [List.filter_filter]
            apply List.filter_congr
            intro j hj
            have hj' := List.mem_range.1 hj
            by_cases e : j = i
            · subst e; simp [Array.getD, show j < listed.size by omega]
            · simp [Array.getD, show j < listed.size by omega, Ne.symm e, e]
          rw [hsub]
          have hmem : i ∈ ((List.range ops.size).filter fun j => !listed.getD j true) := List.mem_filter.2 ⟨List.mem_range.2 hi, by rw [hl]; rfl⟩
          exact List.length_filter_lt_length_iff_exists.2 ⟨i, hmem, by simp⟩
        omega
      · have e : upd (fun j => listed.getD j false) i = fun j => (listed.setIfInBounds i true).getD j false := by
          funext j
          unfold upd
          by_cases e : j = i
          · subst e; simp [Array.getD, show j < listed.size by omega]
          · simp only [if_neg e]
            by_cases hj : j < listed.size
            · simp [Array.getD, hj, Ne.symm e]
            · simp [Array.getD, hj]
        rw [← e]
        exact hI'
    · rcases hd e he with h | h
      · rw [hb] at h; cases h
      · exact h

theorem wp_region_inv {id : Nat} {a0 : Act} {w0 : World} (hm : P.follows .mixedOrders = true) (hac : ∀ i o, ops[i]? = some o → ∀ e ∈ o.after, Region.binds .any e = true → e.on < i) (ss : List Nat) (I : (Nat → Bool) → List Value → World → Prop)
    (init : I (fun _ => false) (ss.map fun s => a0.tmps.getD s undef) w0.drew)
    (step : ∀ i o, ops[i]? = some o → ∀ L vs w, L i = false → (∀ e ∈ o.after, Region.binds .any e = true → L e.on = true) → vs.length = ss.length → I L vs w →
      wpOp P ops Q i (fun a' w' => ∃ vs', a' = putAll a0 ss vs' ∧ vs'.length = ss.length ∧ I (upd L i) vs' w') (putAll a0 ss vs) w)
    (fin : ∀ L vs w, (∀ i < ops.size, L i = true) → vs.length = ss.length → I L vs w → Q .normal (putAll a0 ss vs) w) : (Code.region id ops true).wp P Q a0 w0 := by
  refine wp_region_any hm ?_
  refine wpAny_inv hac (fun L a w => ∃ vs, a = putAll a0 ss vs ∧ vs.length = ss.length ∧ I L vs w) ?_ ?_ _ _ _ _ (by simp) ?_ ⟨_, (putAll_self ss a0).symm, by simp, ?_⟩
  · rintro i o ho L a w hL hd ⟨vs, rfl, hl, hI⟩
    exact step i o ho L vs w hL hd hl hI
  · rintro L a w hL ⟨vs, rfl, hl, hI⟩
    exact fin L vs w hL hl hI
  · exact Nat.le_trans (List.length_filter_le _ _) (by simp)
  · have e : (fun i => (Array.replicate ops.size false).getD i false) = fun _ => false := by
      funext i
      by_cases h : i < ops.size <;> simp [Array.getD, h]
    rw [e]
    exact init

/-- each operation with its place -/
def Each (S : Nat → Oper → Prop) : Nat → List Oper → Prop
  | _, [] => True
  | i, o :: r => S i o ∧ Each S (i + 1) r
theorem Each.get {S : Nat → Oper → Prop} : ∀ (l : List Oper) (k : Nat), Each S k l → ∀ i o, l[i]? = some o → S (k + i) o
  | [], _, _, _, _, h => by simp at h
  | o :: r, k, hE, 0, o', h => by simp at h; subst h; exact hE.1
  | o :: r, k, hE, i + 1, o', h => by
    have := Each.get r (k + 1) hE.2 i o' (by simpa using h)
    rwa [Nat.add_right_comm] at this
def backward (ops : Array Oper) : Bool := (List.range ops.size).all fun i => ((ops[i]?).map fun o => o.after.all fun e => !Region.binds .any e || decide (e.on < i)).getD true
theorem backward_spec (h : backward ops = true) : ∀ i o, ops[i]? = some o → ∀ e ∈ o.after, Region.binds .any e = true → e.on < i := by
  intro i o ho e he hb
  have hi : i < ops.size := (Array.getElem?_eq_some_iff.1 ho).1
  have := List.all_eq_true.1 h i (List.mem_range.2 hi)
  rw [ho] at this
  simp only [Option.map_some, Option.getD_some, Array.all_eq_true_iff_forall_mem] at this
  have := this e he
  rw [hb] at this
  simpa using this
/-- what is to be shown of an operation -/
def StepInv (P : Program) (ops : Array Oper) (Q : Exit → Act → World → Prop) (a0 : Act) (ss : List Nat) (I : (Nat → Bool) → List Value → World → Prop) (i : Nat) (o : Oper) : Prop :=
  ∀ L vs w, L i = false → (∀ e ∈ o.after, Region.binds .any e = true → L e.on = true) → vs.length = ss.length → I L vs w →
    wpOp P ops Q i (fun a' w' => ∃ vs', a' = putAll a0 ss vs' ∧ vs'.length = ss.length ∧ I (upd L i) vs' w') (putAll a0 ss vs) w
theorem wp_region_each {id : Nat} {a0 : Act} {w0 : World} (hm : P.follows .mixedOrders = true) (hac : backward ops = true) (ss : List Nat) (I : (Nat → Bool) → List Value → World → Prop)
    (init : I (fun _ => false) (ss.map fun s => a0.tmps.getD s undef) w0.drew)
    (step : Each (StepInv P ops Q a0 ss I) 0 ops.toList)
    (fin : ∀ L vs w, (∀ i < ops.size, L i = true) → vs.length = ss.length → I L vs w → Q .normal (putAll a0 ss vs) w) : (Code.region id ops true).wp P Q a0 w0 :=
  wp_region_inv hm (backward_spec hac) ss I init (fun i o ho L vs w h1 h2 h3 h4 => by
    have := Each.get _ 0 step i o (by simpa using ho)
    rw [Nat.zero_add] at this
    exact this L vs w h1 h2 h3 h4) fin

theorem wpOps_inv (hac : ∀ i o, ops[i]? = some o → ∀ e ∈ o.after, Region.binds .any e = true → e.on < i) (I : (Nat → Bool) → Act → World → Prop)
    (step : ∀ i o, ops[i]? = some o → ∀ L a w, L i = false → (∀ e ∈ o.after, Region.binds .any e = true → L e.on = true) → I L a w → wpOp P ops Q i (fun a' w' => I (upd L i) a' w') a w)
    (fin : ∀ L a w, (∀ i < ops.size, L i = true) → I L a w → Q .normal a w) :
    ∀ (m k : Nat) (a : Act) (w : World), k + m = ops.size → I (fun i => decide (i < k)) a w → wpOps P ops Q (List.range' k m) a w
  | 0, k, a, w, hk, hI => by
    simp only [List.range'_zero, wpOps]
    exact fin _ a w (fun i hi => by simp; omega) hI
  | m + 1, k, a, w, hk, hI => by
    rw [List.range'_succ, wpOps_cons]
    have hkl : k < ops.size := by omega
    refine wpOp_mono ?_ (step k _ (Array.getElem?_eq_getElem hkl) _ a w (by simp) (fun e he hb => by simpa using hac k _ (Array.getElem?_eq_getElem hkl) e he hb) hI)
    intro a' w' hI'
    refine wpOps_inv hac I step fin m (k + 1) a' w' (by omega) ?_
    have e : upd (fun i => decide (i < k)) k = fun i => decide (i < k + 1) := by
      funext i
      unfold upd
      by_cases h : i = k
      · subst h; simp
      · simp only [if_neg h, decide_eq_decide]; omega
    rw [← e]
    exact hI'
/-- both kinds of regions -/
theorem wp_region_both {d : Bool} {id : Nat} {a0 : Act} {w0 : World} (hm : P.follows .mixedOrders = true) (hac : ∀ i o, ops[i]? = some o → ∀ e ∈ o.after, Region.binds .any e = true → e.on < i) (ss : List Nat) (I : (Nat → Bool) → List Value → World → Prop)
    (init : I (fun _ => false) (ss.map fun s => a0.tmps.getD s undef) w0) (initd : I (fun _ => false) (ss.map fun s => a0.tmps.getD s undef) w0.drew)
    (step : ∀ i o, ops[i]? = some o → ∀ L vs w, L i = false → (∀ e ∈ o.after, Region.binds .any e = true → L e.on = true) → vs.length = ss.length → I L vs w →
      wpOp P ops Q i (fun a' w' => ∃ vs', a' = putAll a0 ss vs' ∧ vs'.length = ss.length ∧ I (upd L i) vs' w') (putAll a0 ss vs) w)
    (fin : ∀ L vs w, (∀ i < ops.size, L i = true) → vs.length = ss.length → I L vs w → Q .normal (putAll a0 ss vs) w) : (Code.region id ops d).wp P Q a0 w0 := by
  cases d with
  | true => exact wp_region_inv hm hac ss I initd step fin
  | false =>
    refine wp_region ?_
    rw [List.range_eq_range']
    refine wpOps_inv hac (fun L a w => ∃ vs, a = putAll a0 ss vs ∧ vs.length = ss.length ∧ I L vs w) ?_ ?_ ops.size 0 a0 w0 (by omega) ⟨_, (putAll_self ss a0).symm, by simp, by simpa using init⟩
    · rintro i o ho L a w hL hd ⟨vs, rfl, hl, hI⟩
      exact step i o ho L vs w hL hd hl hI
    · rintro L a w hL ⟨vs, rfl, hl, hI⟩
      exact fin L vs w hL hl hI
end
end Go.Gv

/- Single operations of a region: what each does, for wp_region_inv. No program here. -/
set_option linter.unusedVariables false
namespace Go.Gv
open Go Go.RowKit

section
variable {P : Program} {ops : Array Oper} {Q : Exit → Act → World → Prop} {i : Nat} {o : Oper} {a : Act} {w w' : World} {K : Act → World → Prop} {v : Value}
theorem wpOp_run (ho : ops[i]? = some o) (hg : o.guard = none) (hr : (execOp a.eval o).run P w = .ok (.value v) w') (hK : K (a.put o.dst v) w') : wpOp P ops Q i K a w := by
  refine wpOp_step ho fun K' hK' => ?_
  have hw : Region.wanted o (yielded ops a.tmps) = true := by simp [Region.wanted, hg]
  rw [if_pos hw]
  unfold Oper.wp
  rw [hr]
  exact hK' _ _ hK
theorem wpOp_skip (ho : ops[i]? = some o) (hg : o.guard = none) (hr : (execOp a.eval o).run P w = .ok .skip w') (hK : K (a.put o.dst undef) w') : wpOp P ops Q i K a w := by
  refine wpOp_step ho fun K' hK' => ?_
  have hw : Region.wanted o (yielded ops a.tmps) = true := by simp [Region.wanted, hg]
  rw [if_pos hw]
  unfold Oper.wp
  rw [hr]
  exact hK' _ _ hK
theorem wpOp_call (ho : ops[i]? = some o) (hg : o.guard = none) {f : FuncId} {args : Array Value} {post : Ending → World → Prop} (hr : (execOp a.eval o).run P w = .ok (.enter f args) w) (hc : Calls P f args w post)
    (hK : ∀ e w', post e w' → ∃ v, e = .returned v ∧ K (a.put o.dst v) w') : wpOp P ops Q i K a w := by
  refine wpOp_step ho fun K' hK' => ?_
  have hw : Region.wanted o (yielded ops a.tmps) = true := by simp [Region.wanted, hg]
  rw [if_pos hw]
  unfold Oper.wp
  rw [hr]
  exact hc.mono fun e w' he => by
    obtain ⟨v, rfl, hk⟩ := hK e w' he
    exact hK' _ _ hk

theorem ex_move {x : Operand} (ho : o.op = .move x) (hx : a.eval x = v) : (execOp a.eval o).run P w = .ok (.value v) w := by
  unfold execOp; simp [ho, hx]
theorem ex_loadA {ty : TypeId} {x : Operand} (ho : o.op = .load ty x) {d : TypeDesc} (hu : P.underlying ty = some d) (hd : aggDesc d = true) {g off : Nat} {cs : List Value} (hi : (P.info? ty).map (·.size) = some cs.length)
    (hx : a.eval x = .pointer (some ⟨g, off, none⟩)) (hc : ∀ j u, cs[j]? = some u → w.cell? ⟨g, off + j, none⟩ = some u) : (execOp a.eval o).run P w = .ok (.value (.agg cs.toArray)) w := by
  have hr := run_loadA (P := P) w ty d hu hd ⟨g, off, none⟩ cs hi (fun j u hj => by rw [add_mk]; exact hc j u hj)
  unfold execOp
  simp only [ho, hx, Instr.loadAt, Instr.sureAddr, Sem.run_bind, Sem.run_pure, Result.andThen_ok, hr]
theorem ex_storeA {ty : TypeId} {x y : Operand} (ho : o.op = .store ty x y) {g off : Nat} {c : Array Value} {e : TypeId} (hc : Cs w g c e) {vs : List Value} (hi : (P.info? ty).map (·.size) = some vs.length) (h1 : ∀ u ∈ vs, u.oneCell' = true)
    (hfit : off + vs.length ≤ c.size) (hx : a.eval x = .pointer (some ⟨g, off, none⟩)) (hy : (a.eval y).cells = vs.toArray) :
    (execOp a.eval o).run P w = .ok .skip (w.setRow g (lay c off vs)) := by
  have hr := run_storeA (P := P) w ty hc vs (a.eval y) hy hi h1 hfit
  unfold execOp
  simp only [ho, hx, Instr.storeAt, Instr.sureAddr, Sem.run_bind, Sem.run_pure, Result.andThen_ok, hr]
theorem setRow_Cs {g : Nat} {c c' : Array Value} {e : TypeId} (hc : Cs w g c e) : Cs (w.setRow g c') g c' e := setRow_heap w g c c' e _ hc
theorem setRow_Mod {g : Nat} {c' : Array Value} : Mod (fun k => k = g) w (w.setRow g c') := ⟨rfl, rfl, rfl, by simp [World.setRow], fun k _ hk => setRow_other w g k _ hk⟩
theorem ex_alloc {ty : TypeId} (ho : o.op = .alloc ty) {z : Value} {info : TypeInfo} (hi : P.info? ty = some info) (hz : info.zero = some z) : (execOp a.eval o).run P w = .ok (.value (.pointer (some ⟨w.heap.size, 0, none⟩))) (w.alloc (.cells z.cells ty)) := by
  unfold execOp
  simp [ho, Instr.alloc, zeroValue, typeInfo, hi, hz, newVar, newRow]
theorem ex_callF {F : FuncId} {xs : Array Operand} {ts : Array TypeId} (ho : o.op = .call { callee := .value (.func F), args := xs, argTypes := ts }) {fn : Func} (hf : P.funcs[F]? = some fn) (hn : (fn.name == "runtime.NumGoroutine") = false) (hb : fn.body.isNone = false) :
    (execOp a.eval o).run P w = .ok (.enter F (xs.map a.eval)) w := by
  have hn' : ¬ fn.name = "runtime.NumGoroutine" := by simpa using hn
  have hb' : ¬ fn.body = none := by intro e; rw [e] at hb; cases hb
  unfold execOp
  simp [ho, resolve, invoke, Act.eval, Deferred.ofValue, callFunc, hf, hn', hb']
end
end Go.Gv

/- A region that draws its order and turns nothing that stood before: each operation has a value of which V speaks, in whatever order. No program here. -/
set_option linter.unusedVariables false
namespace Go.Gv
open Go Go.RowKit

section
variable {P : Program} {ops : Array Oper} {Q : Exit → Act → World → Prop}

variable {i : Nat} {o : Oper} {a : Act} {w w' : World} {V : Nat → Value → World → Prop}
theorem wanted_of {j s : Nat} {b want : Bool} (hg : o.guard = some (j, want)) (hj : (ops[j]?).bind (·.dst) = some s) (hs : s < a.tmps.size) (he : a.eval (.tmp s) = .bool b) : Region.wanted o (yielded ops a.tmps) = (b == want) := by
  have h1 : a.tmps[s]? = some (.bool b) := by
    simp only [Act.eval, Array.getD_eq_getD_getElem?, Array.getElem?_eq_getElem hs, Option.getD_some] at he
    rw [Array.getElem?_eq_getElem hs, he]
  unfold Region.wanted
  rw [hg]
  simp only [yielded, hj, Option.bind_some, h1]
  rfl
theorem wanted_none (hg : o.guard = none) : Region.wanted o (yielded ops a.tmps) = true := by simp [Region.wanted, hg]
theorem ex_assign {x : Operand} {v : Value} (ho : o.op = .assign x) (hx : a.eval x = v) : (execOp a.eval o).run P w = .ok (.value v) w := by
  unfold execOp; simp [ho, hx]
theorem ex_pick {c x y : Operand} {b : Bool} {vx vy : Value} (ho : o.op = .pick c x y) (hc : a.eval c = .bool b) (hx : a.eval x = vx) (hy : a.eval y = vy) : (execOp a.eval o).run P w = .ok (.value (if b then vx else vy)) w := by
  unfold execOp; simp [ho, hc, hx, hy, asBool]
theorem ex_bin {op : BinOp} {t u : TypeId} {x y : Operand} {vx vy v : Value} (ho : o.op = .binOp op t x y u) (hx : a.eval x = vx) (hy : a.eval y = vy) (hg : (eqGuard op t x y vx vy).run P w = .ok () w) (hr : (binOp op t vx vy).run P w = .ok v w) : (execOp a.eval o).run P w = .ok (.value v) w := by
  unfold execOp; simp [ho, hx, hy, hg, hr]
abbrev Pred := Value → World → Prop
def Stable (p : Pred) : Prop := ∀ v w w', p v w → Mod (fun _ => False) w w' → p v w'
def anyv : Pred := fun _ _ => True
def AllStable : List Pred → Prop
  | [] => True
  | p :: r => Stable p ∧ AllStable r
theorem AllStable.get : ∀ (l : List Pred), AllStable l → ∀ i, Stable (l.getD i anyv)
  | [], _, _ => fun _ _ _ h _ => h
  | p :: r, h, 0 => h.1
  | p :: r, h, i + 1 => by simpa using AllStable.get r h.2 i
theorem Each.mono {S S' : Nat → Oper → Prop} (h : ∀ i o, S i o → S' i o) : ∀ (l : List Oper) (k : Nat), Each S k l → Each S' k l
  | [], _, _ => trivial
  | _ :: r, k, hE => ⟨h _ _ hE.1, Each.mono h r (k + 1) hE.2⟩
section
variable {l : List Pred}
end
end
theorem list_cons {α : Type} {l : List α} {n : Nat} (h : l.length = n + 1) : ∃ x t, l = x :: t ∧ t.length = n := by
  cases l with
  | nil => simp at h
  | cons x t => exact ⟨x, t, rfl, by simpa using h⟩
theorem list_nil {α : Type} {l : List α} (h : l.length = 0) : l = [] := List.eq_nil_of_length_eq_zero h
end Go.Gv

/- A region of either kind in which some operations, one behind the other, turn the world: the others only read or make. No program here. -/
set_option linter.unusedVariables false
namespace Go.Gv
open Go Go.RowKit

section
variable {P : Program} {ops : Array Oper} {Q : Exit → Act → World → Prop}
def afterOf (ops : Array Oper) (i : Nat) : List Nat := match ops[i]? with
  | some o => (o.after.toList.filter fun e => Region.binds .any e).map (·.on)
  | none => []
def clo (ops : Array Oper) : Nat → List Nat → List Nat
  | 0, m => m
  | k + 1, m => clo ops k (if m.contains k then m ++ afterOf ops k else m)
def linked (ops : Array Oper) : List Nat → Bool
  | p :: q :: r => (clo ops ops.size (afterOf ops q)).contains p && linked ops (q :: r)
  | _ => true
def Down (ops : Array Oper) (L : Nat → Bool) : Prop := ∀ i, L i = true → ∀ x ∈ afterOf ops i, L x = true
theorem mem_afterOf {i x : Nat} : x ∈ afterOf ops i ↔ ∃ o, ops[i]? = some o ∧ ∃ e ∈ o.after, Region.binds .any e = true ∧ e.on = x := by
  unfold afterOf
  cases h : ops[i]? with
  | none => simp
  | some o => simp [and_assoc]
theorem clo_done {L : Nat → Bool} (hD : Down ops L) : ∀ (k : Nat) (m : List Nat), (∀ x ∈ m, L x = true) → ∀ x ∈ clo ops k m, L x = true
  | 0, m, h, x, hx => h x hx
  | k + 1, m, h, x, hx => by
    refine clo_done hD k _ (fun y hy => ?_) x hx
    split at hy
    · rename_i hk
      rcases List.mem_append.1 hy with hy | hy
      · exact h y hy
      · exact hD k (h k (by simpa using hk)) y hy
    · exact h y hy
theorem linked_prev {L : Nat → Bool} (hD : Down ops L) : ∀ (c : List Nat), linked ops c = true → ∀ k p q, c[k]? = some p → c[k + 1]? = some q → (∀ x ∈ afterOf ops q, L x = true) → L p = true
  | [], _, k, p, q, h, _, _ => by simp at h
  | [_], _, k, p, q, _, h, _ => by simp at h
  | a :: b :: r, hl, 0, p, q, h1, h2, h3 => by
    simp only [List.getElem?_cons_zero, Option.some.injEq, List.getElem?_cons_succ] at h1 h2
    subst h1; subst h2
    unfold linked at hl
    rw [Bool.and_eq_true] at hl
    exact clo_done hD _ _ h3 a (by simpa using hl.1)
  | a :: b :: r, hl, k + 1, p, q, h1, h2, h3 => by
    unfold linked at hl
    rw [Bool.and_eq_true] at hl
    exact linked_prev hD (b :: r) hl.2 k p q (by simpa using h1) (by simpa using h2) h3
/-- all ahead of k are done -/
theorem linked_all {L : Nat → Bool} (hD : Down ops L) {c : List Nat} (hl : linked ops c = true) : ∀ (k : Nat) (q : Nat), c[k]? = some q → (∀ x ∈ afterOf ops q, L x = true) → ∀ j p, j < k → c[j]? = some p → L p = true
  | 0, q, _, _, j, p, hj, _ => by omega
  | k + 1, q, hq, ha, j, p, hj, hp => by
    have hlt : k < c.length := by have := (List.getElem?_eq_some_iff.1 hq).1; omega
    have hk : c[k]? = some c[k] := List.getElem?_eq_getElem hlt
    have h1 := linked_prev hD c hl k _ q hk hq ha
    by_cases e : j = k
    · subst e; rw [hk] at hp; rw [← Option.some.inj hp]; exact h1
    · exact linked_all hD hl k _ hk (fun x hx => hD _ h1 x hx) j p (by omega) hp

def okSlots (ops : Array Oper) (n : Nat) (ss : List Nat) : Bool := ss.length == ops.size && (ops.toList.zip ss).all fun (o, s) => match o.dst with
  | some t => t == s && decide (s < n)
  | none => decide (n ≤ s)
theorem okSlots_at {n : Nat} {ss : List Nat} (h : okSlots ops n ss = true) {i : Nat} {o : Oper} (ho : ops[i]? = some o) : ∃ s, ss[i]? = some s ∧ ((o.dst = some s ∧ s < n) ∨ (o.dst = none ∧ n ≤ s)) := by
  unfold okSlots at h
  rw [Bool.and_eq_true] at h
  have hl : ss.length = ops.size := by simpa using h.1
  have hi : i < ops.size := (Array.getElem?_eq_some_iff.1 ho).1
  have hs : ss[i]? = some (ss[i]'(by omega)) := List.getElem?_eq_getElem (by omega)
  refine ⟨_, hs, ?_⟩
  have hm : (o, ss[i]'(by omega)) ∈ ops.toList.zip ss := by
    refine List.mem_of_getElem? (i := i) ?_
    rw [List.getElem?_zip_eq_some]
    exact ⟨by simpa using ho, hs⟩
  have := List.all_eq_true.1 h.2 _ hm
  dsimp only at this
  cases hd : o.dst with
  | none => rw [hd] at this; exact Or.inr ⟨rfl, by simpa using this⟩
  | some t =>
    rw [hd] at this
    simp only [Bool.and_eq_true, beq_iff_eq, decide_eq_true_eq] at this
    exact Or.inl ⟨by rw [this.1], this.2⟩
theorem put_far (a : Act) {s : Nat} (h : a.tmps.size ≤ s) (v : Value) : a.put (some s) v = a := by
  obtain ⟨t, d⟩ := a
  simp only [put_tmps, Act.mk.injEq, and_true]
  exact Array.setIfInBounds_eq_of_size_le h
def StableS (S : Nat → Prop) (p : Pred) : Prop := ∀ v w w', p v w → Mod S w w' → p v w'
def AllStableS (S : Nat → Prop) : List Pred → Prop
  | [] => True
  | p :: r => StableS S p ∧ AllStableS S r
theorem AllStableS.get {S : Nat → Prop} : ∀ (l : List Pred), AllStableS S l → ∀ i, StableS S (l.getD i anyv)
  | [], _, _ => fun _ _ _ h _ => h
  | p :: r, h, 0 => h.1
  | p :: r, h, i + 1 => by simpa using AllStableS.get r h.2 i

variable {i : Nat} {o : Oper} {a : Act} {w w' : World} {l : List Pred} {S : Nat → Prop} {c : List Nat} {G : Nat → World → Prop}
end
end Go.Gv

/- Maps that a call holds: a block with entries, as a list of keys and values in the order in which they came. No program here. -/
set_option linter.unusedVariables false
namespace Go.Gv
open Go Go.RowKit
open Go.Maps (Keyed)

section
variable {κ ν : Type} [DecidableEq κ]
/-- what stands in a map: keys by `enc`, values by `val` -/
def MapIs (w : World) (b : Nat) (enc : κ → Value) (val : ν → Value) (ok : κ → Prop) (l : List (κ × ν)) : Prop :=
  (∃ es clock, w.heap[b]? = some (.map es clock) ∧ es.toList.map (fun e => (e.key, e.val)) = l.map (fun p => (enc p.1, val p.2))) ∧ (∀ p ∈ l, ok p.1) ∧ l.Pairwise (fun p q => p.1 ≠ q.1)

variable {w w' : World} {b : Nat} {enc : κ → Value} {val : ν → Value} {ok : κ → Prop} {l : List (κ × ν)} {P : Program} {k e t : TypeId}
omit [DecidableEq κ] in
theorem MapIs.lt (h : MapIs w b enc val ok l) : b < w.heap.size := by
  obtain ⟨⟨es, clock, hb, -⟩, -, -⟩ := h
  exact (Array.getElem?_eq_some_iff.1 hb).1
omit [DecidableEq κ] in
theorem MapIs.mod {S : Nat → Prop} (h : MapIs w b enc val ok l) (hm : Mod S w w') (hn : ¬ S b) : MapIs w' b enc val ok l := by
  obtain ⟨⟨es, clock, hb, he⟩, h2, h3⟩ := h
  exact ⟨⟨es, clock, hm.obj hb hn, he⟩, h2, h3⟩
omit [DecidableEq κ] in
theorem MapIs.made (w : World) (enc : κ → Value) (val : ν → Value) (ok : κ → Prop) : MapIs (w.alloc (.map #[] 0)) w.heap.size enc val ok [] :=
  ⟨⟨#[], 0, heap_alloc_new w _, rfl⟩, by simp, List.Pairwise.nil⟩
omit [DecidableEq κ] in
theorem MapIs.len (h : MapIs w b enc val ok l) (ht : P.underlying t = some (.map k e)) (ty : TypeId) : (Builtin.len_ #[t] ty #[.map (some b)]).run P w = .ok (.int .i64 l.length) w := by
  obtain ⟨⟨es, clock, hb, he⟩, -, -⟩ := h
  have : es.size = l.length := by have := congrArg List.length he; simpa using this
  simp [Builtin.len_, run_underlying ht, MapKept.run_getObj_map hb, this, goInt]

omit [DecidableEq κ] in
end
end Go.Gv

/- More single operations of a region. No program here. -/
set_option linter.unusedVariables false
namespace Go.Gv
open Go Go.RowKit

section
variable {P : Program} {ops : Array Oper} {i : Nat} {o : Oper} {a : Act} {w w' : World}
theorem ex_load1 {ty : TypeId} {x : Operand} (ho : o.op = .load ty x) {d : TypeDesc} (hu : P.underlying ty = some d) (hd : aggDesc d = false) {ad : Addr} (hx : a.eval x = .pointer (some ad)) {v : Value} (hc : w.cell? ad = some v) : (execOp a.eval o).run P w = .ok (.value v) w := by
  have hagg : (isAgg ty).run P w = .ok false w := by
    unfold isAgg
    rw [Sem.run_bind, run_underlying hu w]
    cases d <;> simp_all [aggDesc]
  have hr : (loadVar ty ad).run P w = .ok v w := by simp [loadVar, Sem.run_bind, hagg, hc]
  unfold execOp
  simp only [ho, hx, Instr.loadAt, Instr.sureAddr, Sem.run_bind, Sem.run_pure, Result.andThen_ok, hr]
theorem run_lss_i {t : TypeId} {k : IntKind} (w : World) (x y : Int) (h : P.underlying t = some (.int k)) : (binOp .lss t (.int k x) (.int k y)).run P w = .ok (.bool (decide (x < y))) w := by
  simp [binOp, Op.intCmp]
theorem run_gtr_i {t : TypeId} {k : IntKind} (w : World) (x y : Int) (h : P.underlying t = some (.int k)) : (binOp .gtr t (.int k x) (.int k y)).run P w = .ok (.bool (decide (y < x))) w := by
  simp [binOp, Op.intCmp]
theorem guard_ints {t : TypeId} {k : IntKind} (op : BinOp) (x y : Operand) (a b : Int) (w : World) : (eqGuard op t x y (.int k a) (.int k b)).run P w = .ok () w := by
  cases op <;> simp [eqGuard]
end
section
variable {κ ν : Type} [DecidableEq κ]
end
end Go.Gv

/- A region of either kind in which some operations, one behind the other (the chain), turn the world; what they answered (the trail) is known to the state and to all that comes behind. No program here. -/
set_option linter.unusedVariables false
namespace Go.Gv
open Go Go.RowKit

section
variable {P : Program} {ops : Array Oper} {Q : Exit → Act → World → Prop}
abbrev GPred := List Value → Value → World → Prop
def gi (x : Value) : GPred := fun _ v _ => v = x
def ga : GPred := fun _ _ _ => True
structure StableG (S : Nat → Nat → Prop) (R : Nat → World → World → Prop) (p : GPred) : Prop where
  still : ∀ t v w w', p t v w → R t.length w w' → p t v w'
  on : ∀ t u v w w', p t v w → Mod (S t.length) w w' → p (t ++ [u]) v w'
variable {S : Nat → Nat → Prop} {R : Nat → World → World → Prop}
theorem gi_stable {x : Value} : StableG S R (gi x) := ⟨fun _ _ _ _ h _ => h, fun _ _ _ _ _ h _ => h⟩
theorem ga_stable : StableG S R ga := ⟨fun _ _ _ _ h _ => h, fun _ _ _ _ _ h _ => h⟩
theorem gv_at {t : List Value} {j : Nat} {v u : Value} (h : t[j]? = some v) : (t ++ [u])[j]? = some v := by
  rw [List.getElem?_append_left (List.getElem?_eq_some_iff.1 h).1]; exact h
def AllStableG (S : Nat → Nat → Prop) (R : Nat → World → World → Prop) : List GPred → Prop
  | [] => True
  | p :: r => StableG S R p ∧ AllStableG S R r
theorem AllStableG.get : ∀ (l : List GPred), AllStableG S R l → ∀ i, StableG S R (l.getD i ga)
  | [], _, _ => by simpa using ga_stable
  | p :: r, h, 0 => h.1
  | p :: r, h, i + 1 => by simpa using AllStableG.get r h.2 i

/-- how an operation leaves things -/
def JG (S : Nat → Nat → Prop) (R : Nat → World → World → Prop) (l : List GPred) (c : List Nat) (G : List Value → World → Prop) (i : Nat) (o : Oper) (t : List Value) (a : Act) (w : World) : Act → World → Prop := fun a' w' =>
  ∃ v, a' = a.put o.dst v ∧ (c.contains i = true → Mod (S t.length) w w' ∧ (l.getD i ga) (t ++ [v]) v w' ∧ G (t ++ [v]) w') ∧ (c.contains i = false → R t.length w w' ∧ (l.getD i ga) t v w')
/-- what is to be shown of an operation -/
def StepG (P : Program) (ops : Array Oper) (Q : Exit → Act → World → Prop) (a0 : Act) (w0 : World) (n : Nat) (ss : List Nat) (T : Nat → Prop) (S : Nat → Nat → Prop) (R : Nat → World → World → Prop) (l : List GPred) (c : List Nat) (G : List Value → World → Prop) (i : Nat) (o : Oper) : Prop :=
  ∀ t a w, Mod T w0 w → (∀ t, t ∉ ss → a.eval (.tmp t) = a0.eval (.tmp t)) → (∀ s, s < n → s < a.tmps.size) →
    (∀ e ∈ o.after, Region.binds .any e = true → ∀ s, (ops[e.on]?).bind (·.dst) = some s → (l.getD e.on ga) t (a.eval (.tmp s)) w) → G t w → (∀ k, c[k]? = some i → t.length = k) → (∀ k q, c[k]? = some q → (clo ops ops.size (afterOf ops q)).contains i = true → t.length ≤ k) →
    wpOp P ops Q i (JG S R l c G i o t a w) a w

theorem wp_region_G {d : Bool} {id : Nat} {a0 : Act} {w0 : World} (n : Nat) (hn : a0.tmps.size = n) (hm : P.follows .mixedOrders = true) (hac : backward ops = true) (ss : List Nat) (hss : okSlots ops n ss = true) (hnd : ss.Nodup)
    (T : Nat → Prop) (S : Nat → Nat → Prop) (hT : ∀ k j, S k j → T j) (R : Nat → World → World → Prop) (hR : ∀ k w w', Mod (fun _ => False) w w' → R k w w') (hRT : ∀ k w w', Mod T w0 w → R k w w' → Mod T w0 w') (l : List GPred) (stable : AllStableG S R l) (c : List Nat) (hlk : linked ops c = true) (hcn : c.Nodup) (hcs : (c.all fun i => decide (i < ops.size)) = true)
    (G : List Value → World → Prop) (Gst : ∀ t w w', G t w → R t.length w w' → G t w') (g0 : G [] w0)
    (step : Each (StepG P ops Q a0 w0 n ss T S R l c G) 0 ops.toList)
    (fin : ∀ vs t w, vs.length = ss.length → t.length = c.length → Mod T w0 w → G t w → (∀ p v, vs[p]? = some v → (l.getD p ga) t v w) → Q .normal (putAll a0 ss vs) w) : (Code.region id ops d).wp P Q a0 w0 := by
  have hinj : ∀ (j k i : Nat), c[j]? = some i → c[k]? = some i → j = k := by
    intro j k i h1 h2
    exact (List.getElem?_inj (List.getElem?_eq_some_iff.1 h1).1 hcn).1 (h1.trans h2.symm)
  refine wp_region_both hm (backward_spec hac) ss (fun L vs w => Mod T w0 w ∧ Down ops L ∧ ∃ t : List Value, t.length ≤ c.length ∧ (∀ j p, j < t.length → c[j]? = some p → L p = true) ∧ (∀ j p, t.length ≤ j → c[j]? = some p → L p = false) ∧ G t w ∧ ∀ p v, L p = true → vs[p]? = some v → (l.getD p ga) t v w)
    ⟨Mod.refl _ _, (fun i h => by cases h), [], Nat.zero_le _, (fun j p h => by simp at h), (fun _ _ _ _ => rfl), g0, (fun p v h => by cases h)⟩
    ⟨(Mod.refl _ _).drew, (fun i h => by cases h), [], Nat.zero_le _, (fun j p h => by simp at h), (fun _ _ _ _ => rfl), Gst _ _ _ g0 (hR _ _ _ (Mod.refl _ _).drew), (fun p v h => by cases h)⟩ ?_ ?_
  · rintro i o ho L vs w hL hd hl ⟨hmod, hD, t, hkl, hk1, hk2, hG, hV⟩
    have hst := Each.get _ 0 step i o (by simpa using ho)
    rw [Nat.zero_add] at hst
    obtain ⟨s, hs, hds⟩ := okSlots_at hss ho
    have haf : ∀ x ∈ afterOf ops i, L x = true := by
      intro x hx
      obtain ⟨o', ho', e, he, hb, rfl⟩ := mem_afterOf.1 hx
      rw [ho] at ho'
      cases ho'
      exact hd e he hb
    have hDn : Down ops (upd L i) := by
      intro j hj x hx
      unfold upd at hj ⊢
      by_cases e : x = i
      · rw [if_pos e]
      · rw [if_neg e]
        by_cases e2 : j = i
        · subst e2; exact haf x hx
        · rw [if_neg e2] at hj; exact hD j hj x hx
    have hGk : ∀ k' : Nat, c[k']? = some i → k' = t.length := by
      intro k' hk'
      have hall := linked_all hD hlk k' i hk' haf
      rcases Nat.lt_trichotomy k' t.length with h | h | h
      · have := hk1 k' i h hk'; rw [hL] at this; cases this
      · exact h
      · have hlt : t.length < c.length := by have := (List.getElem?_eq_some_iff.1 hk').1; omega
        have := hall t.length c[t.length] h (List.getElem?_eq_getElem hlt)
        rw [hk2 t.length c[t.length] (Nat.le_refl _) (List.getElem?_eq_getElem hlt)] at this
        cases this
    have hub : ∀ k q, c[k]? = some q → (clo ops ops.size (afterOf ops q)).contains i = true → t.length ≤ k := by
      intro k q hq hc
      rcases Nat.lt_or_ge k t.length with h | h
      · have h1 := hk1 k q h hq
        have h2 := clo_done hD _ _ (fun x hx => hD q h1 x hx) i (by simpa using hc)
        rw [hL] at h2
        cases h2
      · exact h
    refine wpOp_mono ?_ (hst t (putAll a0 ss vs) w hmod (fun t ht => eval_out _ _ _ _ ht) (fun t ht => by rw [putAll_size, hn]; exact ht) (fun e he hb s' hs' => ?_) hG (fun k' hk' => (hGk k' hk').symm) hub)
    · rintro a' w' ⟨v, rfl, hc1, hc2⟩
      have hlt : i < vs.length := by rw [hl]; exact (List.getElem?_eq_some_iff.1 hs).1
      have hput : (putAll a0 ss vs).put o.dst v = putAll a0 ss (vs.set i v) := by
        have e1 := putAll_put _ _ a0 i s v hnd hl hs
        rcases hds with ⟨h1, h2⟩ | ⟨h1, h2⟩
        · rw [h1]; exact e1
        · rw [h1, ← e1, put_far _ (by rw [putAll_size, hn]; exact h2)]; rfl
      by_cases hci : c.contains i = true
      · obtain ⟨hm', hv, hg'⟩ := hc1 hci
        refine ⟨vs.set i v, hput, by simpa using hl, hmod.trans hm' (fun j _ h => hT _ _ h), hDn, t ++ [v], ?_, fun j p hj hp => ?_, fun j p hj hp => ?_, hg', fun p u hp hu => ?_⟩
        · obtain ⟨k', hk'⟩ := List.getElem?_of_mem (show i ∈ c by simpa using hci)
          have := hGk k' hk'
          have := (List.getElem?_eq_some_iff.1 hk').1
          rw [List.length_append]; simp; omega
        · unfold upd
          by_cases e : p = i
          · rw [if_pos e]
          · rw [if_neg e]
            refine hk1 j p ?_ hp
            rw [List.length_append] at hj
            simp at hj
            by_cases e2 : j = t.length
            · subst e2
              obtain ⟨k', hk'⟩ := List.getElem?_of_mem (show i ∈ c by simpa using hci)
              have := hGk k' hk'
              subst this
              rw [hk'] at hp
              exact absurd (Option.some.inj hp).symm e
            · omega
        · rw [List.length_append] at hj
          simp at hj
          unfold upd
          have e : ¬ p = i := fun e => by subst e; have := hGk j hp; omega
          rw [if_neg e]
          exact hk2 j p (by omega) hp
        · by_cases e : p = i
          · subst e
            rw [List.getElem?_set_self', List.getElem?_eq_getElem hlt] at hu
            simp at hu
            subst hu
            exact hv
          · rw [List.getElem?_set_ne (Ne.symm e)] at hu
            unfold upd at hp
            rw [if_neg e] at hp
            exact (AllStableG.get l stable p).on _ _ _ _ _ (hV p u hp hu) hm'
      · have hci' : c.contains i = false := by simpa using hci
        obtain ⟨hm', hv⟩ := hc2 hci'
        have hni : ∀ j p : Nat, c[j]? = some p → ¬ p = i := fun j p hp e => hci (by subst e; simpa using List.mem_of_getElem? hp)
        refine ⟨vs.set i v, hput, by simpa using hl, hRT _ _ _ hmod hm', hDn, t, hkl, fun j p hj hp => ?_, fun j p hj hp => ?_, Gst _ _ _ hG hm', fun p u hp hu => ?_⟩
        · unfold upd; rw [if_neg (hni j p hp)]; exact hk1 j p hj hp
        · unfold upd; rw [if_neg (hni j p hp)]; exact hk2 j p hj hp
        · by_cases e : p = i
          · subst e
            rw [List.getElem?_set_self', List.getElem?_eq_getElem hlt] at hu
            simp at hu
            subst hu
            exact hv
          · rw [List.getElem?_set_ne (Ne.symm e)] at hu
            unfold upd at hp
            rw [if_neg e] at hp
            exact (AllStableG.get l stable p).still _ _ _ _ (hV p u hp hu) hm'
    · have hLe := hd e he hb
      cases hoe : ops[e.on]? with
      | none => rw [hoe] at hs'; cases hs'
      | some o2 =>
        rw [hoe] at hs'
        obtain ⟨s2, hs2, hds2⟩ := okSlots_at hss hoe
        rcases hds2 with ⟨h1, h2⟩ | ⟨h1, h2⟩
        · have e3 : s2 = s' := Option.some.inj (h1.symm.trans hs')
          subst e3
          have hvl : e.on < vs.length := by rw [hl]; exact (List.getElem?_eq_some_iff.1 hs2).1
          rw [eval_in a0 ss vs e.on s2 vs[e.on] hnd hl hs2 (by rw [hn]; exact h2) (List.getElem?_eq_getElem hvl)]
          exact hV _ _ hLe (List.getElem?_eq_getElem hvl)
        · have : (none : Option Nat) = some s' := h1.symm.trans hs'
          cases this
  · rintro L vs w hL hl ⟨hmod, hD, t, hkl, hk1, hk2, hG, hV⟩
    have hk : t.length = c.length := by
      rcases Nat.lt_or_ge t.length c.length with h | h
      · have h1 := hk2 t.length c[t.length] (Nat.le_refl _) (List.getElem?_eq_getElem h)
        rw [hL c[t.length] (by simpa using List.all_eq_true.1 hcs _ (List.getElem_mem h))] at h1
        cases h1
      · omega
    have hsl : ss.length = ops.size := by
      unfold okSlots at hss
      rw [Bool.and_eq_true] at hss
      simpa using hss.1
    refine fin vs t w hl hk hmod hG fun p v hv => hV p v (hL p ?_) hv
    have := (List.getElem?_eq_some_iff.1 hv).1
    omega

variable {i : Nat} {o : Oper} {a : Act} {w w' : World} {l : List GPred} {c : List Nat} {G : List Value → World → Prop} {t : List Value}
theorem jg_run (hc : c.contains i = false) (ho : ops[i]? = some o) (hw : Region.wanted o (yielded ops a.tmps) = true) {v : Value} (hr : (execOp a.eval o).run P w = .ok (.value v) w') (hm : R t.length w w') (hv : (l.getD i ga) t v w') : wpOp P ops Q i (JG S R l c G i o t a w) a w := by
  refine wpOp_step ho fun K' hK' => ?_
  rw [if_pos hw]
  unfold Oper.wp
  rw [hr]
  exact hK' _ _ ⟨v, rfl, (fun h => by rw [hc] at h; cases h), fun _ => ⟨hm, hv⟩⟩
theorem jg_call (hc : c.contains i = false) (ho : ops[i]? = some o) (hw : Region.wanted o (yielded ops a.tmps) = true) {f : FuncId} {args : Array Value} {post : Ending → World → Prop} (hr : (execOp a.eval o).run P w = .ok (.enter f args) w) (hcl : Calls P f args w post)
    (hp : ∀ e w', post e w' → ∃ v, e = .returned v ∧ R t.length w w' ∧ (l.getD i ga) t v w') : wpOp P ops Q i (JG S R l c G i o t a w) a w := by
  refine wpOp_step ho fun K' hK' => ?_
  rw [if_pos hw]
  unfold Oper.wp
  rw [hr]
  exact hcl.mono fun e w' he => by
    obtain ⟨v, rfl, h1, h2⟩ := hp e w' he
    exact hK' _ _ ⟨v, rfl, (fun h => by rw [hc] at h; cases h), fun _ => ⟨h1, h2⟩⟩
theorem jc_turn (hc : c.contains i = true) (ho : ops[i]? = some o) (hw : Region.wanted o (yielded ops a.tmps) = true) (hr : (execOp a.eval o).run P w = .ok .skip w') (hm : Mod (S t.length) w w') (hv : (l.getD i ga) (t ++ [undef]) undef w') (hg : G (t ++ [undef]) w') : wpOp P ops Q i (JG S R l c G i o t a w) a w := by
  refine wpOp_step ho fun K' hK' => ?_
  rw [if_pos hw]
  unfold Oper.wp
  rw [hr]
  exact hK' _ _ ⟨undef, rfl, (fun _ => ⟨hm, hv, hg⟩), fun h => by rw [hc] at h; cases h⟩
def Still : Nat → World → World → Prop := fun _ w w' => Mod (fun _ => False) w w'
/-- w' is w but for the marks of new rows of type T8 (and new blocks) -/
structure Marked (B : Nat) (T8 : TypeId) (w w' : World) : Prop where
  os : w'.os = w.os
  tape : w'.tape = w.tape
  output : w'.output = w.output
  size : w.heap.size ≤ w'.heap.size
  block : ∀ k, k < w.heap.size → w'.heap[k]? = w.heap[k]? ∨ (B ≤ k ∧ ∃ C m, w.heap[k]? = some (.cells C T8 m) ∧ w'.heap[k]? = some (.cells C T8 (C.size, C.size + 1)))
/-- rows may be marked as long as no more than K of the chain are done -/
def StillM (B : Nat) (T8 : TypeId) (K : Nat) : Nat → World → World → Prop := fun k w w' => Mod (fun _ => False) w w' ∨ (k ≤ K ∧ Marked B T8 w w')
/-- a literal's row, as long as no more than K of the chain are done -/
def litG (B : Nat) (T8 : TypeId) (K : Nat) (C : Array Value) : GPred := fun t v w => t.length ≤ K → ∃ g, v = .slice (some ⟨g, 0, none⟩) C.size C.size ∧ B ≤ g ∧ ∃ m, (m = (0, 0) ∨ m = (C.size, C.size + 1)) ∧ w.heap[g]? = some (.cells C T8 m)
variable {a : Act} {o : Oper} {w w' : World}
theorem ex_lit {ts T8 : TypeId} {n : Nat} {parts : Array (Nat × Operand)} (ho : o.op = .buildSlice ts n parts) (hu : P.underlying ts = some (.slice T8)) (hie : (P.info? T8).map (fun i => (i.size, i.zero)) = some (1, some (.int .u8 0))) (hn : n ≠ 0 ∧ n ≤ 1000) {C : Array Value}
    (hf : Instr.fill (fun i => some (i * 1, 1)) ((Array.range (n * 1)).map (#[Value.int .u8 0][· % 1]!)) (parts.map fun (i, x) => (i, a.eval x)).toList = some C) :
    (execOp a.eval o).run P w = .ok (.value (.slice (some ⟨w.heap.size, 0, none⟩) n n)) (w.alloc (.cells C T8)) := by
  cases hq : P.info? T8 with
  | none => rw [hq] at hie; cases hie
  | some ie =>
    rw [hq] at hie
    have e := Option.some.inj hie
    have e1 : ie.size = 1 := congrArg Prod.fst e
    have e2 : ie.zero = some (.int .u8 0) := congrArg Prod.snd e
    have hr := run_buildSlice (P := P) w ts T8 n (parts.map fun (i, x) => (i, a.eval x)) C ie (.int .u8 0) hu hq e2 (by rw [e1]; omega) (by rw [e1]; omega) (by rw [e1]; exact hf)
    unfold execOp
    simp only [ho, Sem.run_bind, hr, Result.andThen_ok, Sem.run_pure]
end
/-- a state that goes by how many of the chain are done -/
def ByLen (St : Nat → List Value → World → Prop) : List Value → World → Prop := fun t w => St t.length t w
section
variable {St : Nat → List Value → World → Prop} {t : List Value} {w : World} {v : Value} {k : Nat}
theorem ByLen.at (h : ByLen St t w) (hl : t.length = k) : St k t w := by subst hl; exact h
theorem ByLen.on (hl : t.length = k) (h : St (k + 1) (t ++ [v]) w) : ByLen St (t ++ [v]) w := by
  show St (t ++ [v]).length _ _
  rw [List.length_append, hl]
  exact h
theorem ByLen.still (h : ∀ k t w w', St k t w → Mod (fun _ => False) w w' → St k t w') : ∀ t w w', ByLen St t w → Still t.length w w' → ByLen St t w' := fun _ _ _ h1 h2 => h _ _ _ _ h1 h2
end
end Go.Gv

/- Slices of bytes: what reads as bytes (RdB), what may be appended to (OwnB); the built-in append over them. -/
set_option maxRecDepth 100000
namespace Go.Proofs.Ytfgepphankfbfaa
open Go Go.RowKit Go.Gv

theorem info_u8 : (Try.prog.info? 5).map (fun i => (i.zero, i.size, i.bytes)) = some (some (.int .u8 0), 1, 1) := by kernel_rfl

def Room : Nat := 140737488355328
def U64 : Nat := 18446744073709551616
abbrev bv (x : Int) : Value := .int .u8 x
def IsB (u : Value) : Prop := ∃ x : Int, u = .int .u8 x ∧ 0 ≤ x ∧ x < 256
def Bytes (bs : List Int) : Prop := ∀ x ∈ bs, 0 ≤ x ∧ x < 256

theorem Bytes.nil : Bytes [] := by intro x hx; cases hx
theorem Bytes.one {x : Int} (h0 : 0 ≤ x) (h1 : x < 256) : Bytes [x] := by intro y hy; simp at hy; subst hy; exact ⟨h0, h1⟩
theorem Bytes.append {a b : List Int} (ha : Bytes a) (hb : Bytes b) : Bytes (a ++ b) := fun x hx => (List.mem_append.1 hx).elim (ha x) (hb x)
theorem Bytes.take {a : List Int} (ha : Bytes a) (n : Nat) : Bytes (a.take n) := fun x hx => ha x (List.mem_of_mem_take hx)
theorem Bytes.drop {a : List Int} (ha : Bytes a) (n : Nat) : Bytes (a.drop n) := fun x hx => ha x (List.mem_of_mem_drop hx)
theorem Bytes.get {a : List Int} (ha : Bytes a) {n : Nat} (h : n < a.length) : 0 ≤ a[n] ∧ a[n] < 256 := ha _ (List.getElem_mem h)

def OwnB (w : World) (v : Value) (bs : List Int) : Prop := Own IsB 5 1 w v bs.length (bs.map bv)
def RdB (w : World) (v : Value) (bs : List Int) : Prop := Bytes bs ∧ Rd 1 w v bs.length (bs.map bv)

theorem isB_all {bs : List Int} (h : Bytes bs) : ∀ u ∈ bs.map bv, IsB u := by
  intro u hu; obtain ⟨x, hx, rfl⟩ := List.mem_map.1 hu; exact ⟨x, rfl, h x hx⟩
theorem IsB_zero : ∀ u ∈ (Value.int .u8 0).cells.toList, IsB u := by
  intro u hu; simp [Value.cells] at hu; subst hu; exact ⟨0, rfl, by omega, by omega⟩

section
variable {w w' : World} {v : Value} {bs : List Int} {S : Nat → Prop}
theorem OwnB.bytes (h : OwnB w v bs) : Bytes bs := by
  intro x hx
  obtain ⟨y, hy, h1⟩ := h.2.1 (bv x) (List.mem_map_of_mem hx)
  simp at hy; subst hy; exact h1
theorem OwnB.rd (h : OwnB w v bs) : RdB w v bs := ⟨h.bytes, Own.rd h⟩
theorem RdB.zero (w : World) (ao : Option Addr) (cap : Nat) (h1 : cap ≤ maxLen) (h2 : ao = none → cap = 0) : RdB w (.slice ao 0 cap) [] := ⟨Bytes.nil, Rd.zero 1 w ao cap h1 h2⟩
theorem OwnB.nil (w : World) : OwnB w (.slice none 0 0) [] := Own.nil _ _ _ _
theorem RdB.nil (w : World) : RdB w (.slice none 0 0) [] := ⟨Bytes.nil, Rd.nil _ _⟩
theorem OwnB.mod (h : OwnB w v bs) (hm : Mod S w w') (hn : ∀ g, v.ownBlock = some g → ¬ S g) : OwnB w' v bs := Own.mod h hm hn
theorem RdB.mod (h : RdB w v bs) (hm : Mod S w w') (hn : Apart v bs.length S) : RdB w' v bs := ⟨h.1, h.2.mod hm hn⟩
theorem RdB.alloc (h : RdB w v bs) (o : Obj) : RdB (w.alloc o) v bs := ⟨h.1, h.2.alloc o⟩
theorem RdB.drew (h : RdB w v bs) : RdB w.drew v bs := ⟨h.1, h.2.drew⟩
theorem OwnB.alloc (h : OwnB w v bs) (o : Obj) : OwnB (w.alloc o) v bs := Own.alloc h o
theorem OwnB.drew (h : OwnB w v bs) : OwnB w.drew v bs := Own.drew h
theorem RdB.shape (h : RdB w v bs) : ∃ ao cap, v = .slice ao bs.length cap ∧ bs.length ≤ cap ∧ cap ≤ maxLen := by
  obtain ⟨_, _, ao, cap, rfl, h1, h2, _⟩ := h; exact ⟨ao, cap, rfl, h1, h2⟩
theorem RdB.form (h : RdB w v bs) : (bs = [] ∧ ∃ ao cap, v = .slice ao 0 cap ∧ cap ≤ maxLen) ∨ ∃ g o cap, 0 < bs.length ∧ v = .slice (some ⟨g, o, none⟩) bs.length cap ∧ bs.length ≤ cap ∧ cap ≤ maxLen ∧ ∀ (j : Nat) (hj : j < bs.length), w.cell? ⟨g, o + j, none⟩ = some (.int .u8 bs[j]) := by
  rcases h.2.form (by decide) with ⟨h1, h2, ao, cap, h3, h4, _⟩ | ⟨g, o, cap, h0, h1, h2, h3, _, h5⟩
  · exact .inl ⟨List.eq_nil_of_length_eq_zero h1, ao, cap, h3, h4⟩
  · exact .inr ⟨g, o, cap, h0, h1, h2, h3, fun j hj => h5 j _ (by simp [hj])⟩
theorem RdB.block_lt (h : RdB w v bs) (h0 : 0 < bs.length) : ∀ g, v.ownBlock = some g → g < w.heap.size := by
  intro g hg
  rcases h.form with ⟨rfl, _⟩ | ⟨g', o, cap, _, rfl, _, _, hc⟩
  · simp at h0
  · simp [Value.ownBlock] at hg
    subst hg
    exact World.block_lt_of_cell? _ _ (hc 0 h0)
theorem RdB.cut {ao : Option Addr} {n cap : Nat} (hr : RdB w (.slice ao n cap) bs) (lo hi m : Nat) (h1 : lo ≤ hi) (h2 : hi ≤ bs.length) (h3 : hi ≤ m) (h4 : m ≤ cap) :
    RdB w (.slice (if m = lo then ao else ao.map (·.add (lo * 1))) (hi - lo) (m - lo)) ((bs.drop lo).take (hi - lo)) := by
  obtain ⟨hb, hr : Rd 1 w _ _ _⟩ := hr
  have e : n = bs.length := by obtain ⟨_, _, _, e, _⟩ := hr; simp at e; exact e.2.1
  subst e
  have h := Rd.sliced hr lo hi m h1 h2 h3 h4
  refine ⟨(hb.drop _).take _, ?_⟩
  have el : ((bs.drop lo).take (hi - lo)).length = hi - lo := by simp; omega
  rw [el]
  simpa [List.map_take, List.map_drop] using h
theorem RdB.upto {ao : Option Addr} {n cap : Nat} (hr : RdB w (.slice ao n cap) bs) (k : Nat) (hk : k ≤ bs.length) : RdB w (.slice ao k cap) (bs.take k) := by
  obtain ⟨hb, hl, ao', cap', e, h1, h2, h3, h4⟩ := hr
  simp only [Value.slice.injEq] at e
  obtain ⟨rfl, rfl, rfl⟩ := e
  have el : (bs.take k).length = k := by simp; omega
  refine ⟨hb.take k, ?_⟩
  rw [el]
  refine ⟨by simp; omega, ao, cap, rfl, by omega, h2, h3, fun x hx j u hu => h4 x hx j u ?_⟩
  rw [List.map_take, List.getElem?_take] at hu
  split at hu
  · exact hu
  · cases hu
theorem RdB.tail_at {ao : Option Addr} {m cap : Nat} (hr : RdB w (.slice ao m cap) bs) (n : Nat) (hn : n ≤ bs.length) (h : cap = n) : RdB w (.slice ao (bs.length - n) 0) (bs.drop n) := by
  have hl : m = bs.length ∧ m ≤ cap ∧ cap ≤ maxLen := by
    obtain ⟨hb, hl, ao', cap', e, h1, h2, h3, h4⟩ := hr
    simp only [Value.slice.injEq] at e
    obtain ⟨rfl, rfl, rfl⟩ := e
    exact ⟨rfl, h1, h2⟩
  have e1 : bs.length - n = 0 := by omega
  rw [e1, List.drop_of_length_le (by omega)]
  exact ⟨Bytes.nil, Rd.zero 1 w ao 0 (by simp [maxLen_val]) (fun _ => rfl)⟩
theorem RdB.tail_in {ao : Option Addr} {m cap : Nat} (hr : RdB w (.slice ao m cap) bs) (n : Nat) (hn : n ≤ bs.length) (h : ¬ cap = n) : RdB w (.slice (ao.map fun x => x.add n) (bs.length - n) (cap - n)) (bs.drop n) := by
  have hl : m = bs.length ∧ m ≤ cap ∧ cap ≤ maxLen := by
    obtain ⟨hb, hl, ao', cap', e, h1, h2, h3, h4⟩ := hr
    simp only [Value.slice.injEq] at e
    obtain ⟨rfl, rfl, rfl⟩ := e
    exact ⟨rfl, h1, h2⟩
  have := RdB.cut hr n bs.length cap hn (Nat.le_refl _) (by omega) (Nat.le_refl _)
  rw [if_neg h, List.take_of_length_le (by simp)] at this
  simpa using this
theorem RdB.len {ao : Option Addr} {n cap : Nat} (hr : RdB w (.slice ao n cap) bs) : n = bs.length ∧ n ≤ cap ∧ cap ≤ maxLen := by
  obtain ⟨hb, hl, ao', cap', e, h1, h2, h3, h4⟩ := hr
  simp only [Value.slice.injEq] at e
  obtain ⟨rfl, rfl, rfl⟩ := e
  exact ⟨rfl, h1, h2⟩
end

theorem ret_int {k : IntKind} {a b : Int} (h : a = b) : Ending.returned (.int k a) = .returned (.int k b) := by rw [h]
/-- one new cell, as a slice -/
theorem RdB_one (w : World) {x : Int} (h0 : 0 ≤ x) (h1 : x < 256) (e : TypeId) : RdB (w.alloc (.cells #[bv x] e)) (.slice (some ⟨w.heap.size, 0, none⟩) 1 1) [x] :=
  ⟨Bytes.one h0 h1, Rd.mk (Nat.le_refl _) (by rw [maxLen_val]; omega) rfl fun j y hy => by
    rw [Nat.zero_add, (Cs.new w #[bv x] e).cell]; simpa using hy⟩

/-- what an append of bytes may come to -/
def AppB (w : World) (v : Value) (bs : List Int) (v' : Value) (w' : World) : Prop :=
  OwnB w' v' bs ∧ Mod (fun k => some k = v.ownBlock) w w' ∧ (v'.ownBlock = v.ownBlock ∨ ∃ k, v'.ownBlock = some k ∧ w.heap.size ≤ k)

theorem wpList_appB {w : World} {ops : Array Oper} {rest : List Oper} {o : Oper} {a : Act} {Q : Exit → Act → World → Prop} (hgd : o.guard = none) (s x : Operand)
    (ho : o.op = .call { callee := .builtin .append, args := #[s, x], argTypes := #[22, 22] })
    {v : Value} {bs : List Int} (hs : a.eval s = v) (hown : OwnB w v bs) {xv : Value} {new : List Int} (hx : a.eval x = xv) (hrd : RdB w xv new)
    (hroom : bs.length + new.length ≤ Room)
    (h : ∀ ao cap w', AppB w v (bs ++ new) (.slice ao (bs.length + new.length) cap) w' → wpList Try.prog ops Q rest (a.put o.dst (.slice ao (bs.length + new.length) cap)) w') : wpList Try.prog ops Q (o :: rest) a w := by
  obtain ⟨i0, hi, hz0, hz1, hz2⟩ := info_parts info_u8
  refine wpList_append hgd s x 22 ho 5 i0 (.int .u8 0) 1 1 Try.underlying22 hi hz0 hz1 hz2 rfl (by decide) IsB_zero v _ _ hs hown xv new.length (new.map bv) hx hrd.2 (isB_all hrd.1) (ints_oneCell .u8 new) ?_ ?_ ?_
  · unfold Room at hroom; omega
  · unfold Room at hroom; rw [maxLen_val]; omega
  · intro ao cap w' ⟨h1, h2, h3⟩
    refine h ao cap w' ⟨?_, h2, h3⟩
    unfold OwnB
    rw [List.length_append, List.map_append]
    exact h1

theorem mod_drewN {S : Nat → Prop} {a b : World} (h : Mod S a b) (n : Nat) : Mod S a (b.drewN n) := ⟨h.os, h.tape, h.output, h.size, h.block⟩
theorem mod_of_drewN {w w' : World} (h : ∃ n, w' = w.drewN n) (S : Nat → Prop) : Mod S w w' := by
  obtain ⟨n, rfl⟩ := h; exact mod_drewN (Mod.refl _ _) n
theorem ownBlock_map (ao : Option Addr) (n a b c d : Nat) : (Value.slice (ao.map fun x => x.add n) a b).ownBlock = (Value.slice ao c d).ownBlock := by
  cases ao with
  | none => rfl
  | some x => simp only [Option.map_some, Value.ownBlock, Option.some.injEq]; unfold Addr.add; split <;> rfl
/-- a slice that is new -/
def Fresh (w : World) (v : Value) : Prop := ∀ g, v.ownBlock = some g → w.heap.size ≤ g
end Go.Proofs.Ytfgepphankfbfaa

/- SHA-256 in plain words, as the program's own operations spell it; bits.RotateLeft32 and sha.word. -/
set_option maxRecDepth 100000
set_option linter.unusedVariables false
namespace Go.Proofs.Ytfgepphankfbfaa
open Go Go.RowKit Go.Gv

abbrev wv (x : Int) : Value := .int .u32 x
/-- a word turned to the right -/
def rr (n : Nat) (x : Int) : Int := bits .or .u32 (IntKind.u32.wrap (x * 2 ^ (32 - n))) (x / 2 ^ n)
def xr (a b : Int) : Int := bits .xor .u32 a b
def an (a b : Int) : Int := bits .and .u32 a b
def pl (a b : Int) : Int := (a + b) % 4294967296
def wordOf (a b c d : Int) : Int := bits .or .u32 (bits .or .u32 (bits .or .u32 (a % 4294967296 * 16777216 % 4294967296) (b % 4294967296 * 65536 % 4294967296)) (c % 4294967296 * 256 % 4294967296)) (d % 4294967296)

theorem RL_7 (x : Int) (w : World) : Calls Try.prog 69 #[wv x, .int .i64 (-7)] w fun e w' => e = .returned (wv (rr 7 x)) ∧ w = w' := by
  have hr : rr 7 x = bits .or .u32 (IntKind.u32.wrap (x * 33554432)) (x / 128) := rfl
  have HR := Lib.hid hr
  clear hr
  have hs : bits .and .u64 (IntKind.u64.wrap (-7)) 31 = 25 := by decide +kernel
  go_enter Try.func69, Try.ntmps69
  go_wp2
  go_ret
  exact ⟨ret_int (by rw [HR.out]; rfl), rfl⟩
theorem RL_18 (x : Int) (w : World) : Calls Try.prog 69 #[wv x, .int .i64 (-18)] w fun e w' => e = .returned (wv (rr 18 x)) ∧ w = w' := by
  have hr : rr 18 x = bits .or .u32 (IntKind.u32.wrap (x * 16384)) (x / 262144) := rfl
  have HR := Lib.hid hr
  clear hr
  have hs : bits .and .u64 (IntKind.u64.wrap (-18)) 31 = 14 := by decide +kernel
  go_enter Try.func69, Try.ntmps69
  go_wp2
  go_ret
  exact ⟨ret_int (by rw [HR.out]; rfl), rfl⟩
theorem RL_17 (x : Int) (w : World) : Calls Try.prog 69 #[wv x, .int .i64 (-17)] w fun e w' => e = .returned (wv (rr 17 x)) ∧ w = w' := by
  have hr : rr 17 x = bits .or .u32 (IntKind.u32.wrap (x * 32768)) (x / 131072) := rfl
  have HR := Lib.hid hr
  clear hr
  have hs : bits .and .u64 (IntKind.u64.wrap (-17)) 31 = 15 := by decide +kernel
  go_enter Try.func69, Try.ntmps69
  go_wp2
  go_ret
  exact ⟨ret_int (by rw [HR.out]; rfl), rfl⟩
theorem RL_19 (x : Int) (w : World) : Calls Try.prog 69 #[wv x, .int .i64 (-19)] w fun e w' => e = .returned (wv (rr 19 x)) ∧ w = w' := by
  have hr : rr 19 x = bits .or .u32 (IntKind.u32.wrap (x * 8192)) (x / 524288) := rfl
  have HR := Lib.hid hr
  clear hr
  have hs : bits .and .u64 (IntKind.u64.wrap (-19)) 31 = 13 := by decide +kernel
  go_enter Try.func69, Try.ntmps69
  go_wp2
  go_ret
  exact ⟨ret_int (by rw [HR.out]; rfl), rfl⟩
theorem RL_6 (x : Int) (w : World) : Calls Try.prog 69 #[wv x, .int .i64 (-6)] w fun e w' => e = .returned (wv (rr 6 x)) ∧ w = w' := by
  have hr : rr 6 x = bits .or .u32 (IntKind.u32.wrap (x * 67108864)) (x / 64) := rfl
  have HR := Lib.hid hr
  clear hr
  have hs : bits .and .u64 (IntKind.u64.wrap (-6)) 31 = 26 := by decide +kernel
  go_enter Try.func69, Try.ntmps69
  go_wp2
  go_ret
  exact ⟨ret_int (by rw [HR.out]; rfl), rfl⟩
theorem RL_11 (x : Int) (w : World) : Calls Try.prog 69 #[wv x, .int .i64 (-11)] w fun e w' => e = .returned (wv (rr 11 x)) ∧ w = w' := by
  have hr : rr 11 x = bits .or .u32 (IntKind.u32.wrap (x * 2097152)) (x / 2048) := rfl
  have HR := Lib.hid hr
  clear hr
  have hs : bits .and .u64 (IntKind.u64.wrap (-11)) 31 = 21 := by decide +kernel
  go_enter Try.func69, Try.ntmps69
  go_wp2
  go_ret
  exact ⟨ret_int (by rw [HR.out]; rfl), rfl⟩
theorem RL_25 (x : Int) (w : World) : Calls Try.prog 69 #[wv x, .int .i64 (-25)] w fun e w' => e = .returned (wv (rr 25 x)) ∧ w = w' := by
  have hr : rr 25 x = bits .or .u32 (IntKind.u32.wrap (x * 128)) (x / 33554432) := rfl
  have HR := Lib.hid hr
  clear hr
  have hs : bits .and .u64 (IntKind.u64.wrap (-25)) 31 = 7 := by decide +kernel
  go_enter Try.func69, Try.ntmps69
  go_wp2
  go_ret
  exact ⟨ret_int (by rw [HR.out]; rfl), rfl⟩
theorem RL_2 (x : Int) (w : World) : Calls Try.prog 69 #[wv x, .int .i64 (-2)] w fun e w' => e = .returned (wv (rr 2 x)) ∧ w = w' := by
  have hr : rr 2 x = bits .or .u32 (IntKind.u32.wrap (x * 1073741824)) (x / 4) := rfl
  have HR := Lib.hid hr
  clear hr
  have hs : bits .and .u64 (IntKind.u64.wrap (-2)) 31 = 30 := by decide +kernel
  go_enter Try.func69, Try.ntmps69
  go_wp2
  go_ret
  exact ⟨ret_int (by rw [HR.out]; rfl), rfl⟩
theorem RL_13 (x : Int) (w : World) : Calls Try.prog 69 #[wv x, .int .i64 (-13)] w fun e w' => e = .returned (wv (rr 13 x)) ∧ w = w' := by
  have hr : rr 13 x = bits .or .u32 (IntKind.u32.wrap (x * 524288)) (x / 8192) := rfl
  have HR := Lib.hid hr
  clear hr
  have hs : bits .and .u64 (IntKind.u64.wrap (-13)) 31 = 19 := by decide +kernel
  go_enter Try.func69, Try.ntmps69
  go_wp2
  go_ret
  exact ⟨ret_int (by rw [HR.out]; rfl), rfl⟩
theorem RL_22 (x : Int) (w : World) : Calls Try.prog 69 #[wv x, .int .i64 (-22)] w fun e w' => e = .returned (wv (rr 22 x)) ∧ w = w' := by
  have hr : rr 22 x = bits .or .u32 (IntKind.u32.wrap (x * 1024)) (x / 4194304) := rfl
  have HR := Lib.hid hr
  clear hr
  have hs : bits .and .u64 (IntKind.u64.wrap (-22)) 31 = 10 := by decide +kernel
  go_enter Try.func69, Try.ntmps69
  go_wp2
  go_ret
  exact ⟨ret_int (by rw [HR.out]; rfl), rfl⟩

theorem word_any (v : Value) (a b c d : Int) (bs : List Int) (w : World) (h : RdB w v (a :: b :: c :: d :: bs)) :
    Calls Try.prog 88 #[v] w fun e w' => e = .returned (wv (wordOf a b c d)) ∧ ∃ n, w' = w.drewN n := by
  obtain ⟨ao, cap, rfl, hc, hm⟩ := h.shape
  rcases h.form with ⟨h0, _⟩ | ⟨g, o, cap', _, hv, h1, h2, hcell⟩
  · cases h0
  simp only [Value.slice.injEq] at hv
  obtain ⟨rfl, _, rfl⟩ := hv
  have c0 := hcell 0 (by simp)
  have c1 := hcell 1 (by simp)
  have c2 := hcell 2 (by simp)
  have c3 := hcell 3 (by simp)
  simp only [List.getElem_cons_zero, List.getElem_cons_succ, Nat.add_zero] at c0 c1 c2 c3
  have hw : wordOf a b c d = bits .or .u32 (bits .or .u32 (bits .or .u32 (a % 4294967296 * 16777216 % 4294967296) (b % 4294967296 * 65536 % 4294967296)) (c % 4294967296 * 256 % 4294967296)) (d % 4294967296) := rfl
  have HW := Lib.hid hw
  simp only [List.length_cons] at hc ⊢
  generalize bs.length = n at *
  clear hw h hcell h1 h2 hm
  go_enter Try.func88, Try.ntmps88
  go_wp2
  go_quiet (fail)
  go_wp2
  go_ret
  exact ⟨ret_int (by rw [HW.out]), ⟨_, rfl⟩⟩
end Go.Proofs.Ytfgepphankfbfaa

/- sha.spread: a block as 64 words. -/
set_option maxRecDepth 100000
set_option linter.unusedVariables false
namespace Go.Proofs.Ytfgepphankfbfaa
open Go Go.RowKit Go.Gv

def wAt (bs : List Int) (i : Nat) : Int := wordOf (bs.getD (4 * i) 0) (bs.getD (4 * i + 1) 0) (bs.getD (4 * i + 2) 0) (bs.getD (4 * i + 3) 0)
def w16 (bs : List Int) (i : Nat) : List Int := (List.range i).map (wAt bs) ++ List.replicate (64 - i) 0
def spVal (p x q y : Int) : Int := pl (pl (pl p (xr (xr (rr 7 x) (rr 18 x)) (x / 8))) q) (xr (xr (rr 17 y) (rr 19 y)) (y / 1024))
def spStep (ws : List Int) (j : Nat) : List Int := ws.set (j + 16) (spVal (ws.getD j 0) (ws.getD (j + 1) 0) (ws.getD (j + 9) 0) (ws.getD (j + 14) 0))
def spTo (bs : List Int) (j : Nat) : List Int := (List.range j).foldl spStep (w16 bs 16)
def spreadF (bs : List Int) : List Int := spTo bs 48
theorem w16_len (bs : List Int) (i : Nat) (h : i ≤ 64) : (w16 bs i).length = 64 := by simp [w16]; omega
theorem w16_succ (bs : List Int) (i : Nat) (h : i < 64) : (w16 bs i).set i (wAt bs i) = w16 bs (i + 1) := by
  unfold w16
  rw [List.set_append_right _ _ (by simp), List.length_map, List.length_range, Nat.sub_self, List.range_succ, List.map_append, List.append_assoc]
  congr 1
  obtain ⟨k, hk⟩ : ∃ k, 64 - i = k + 1 := ⟨63 - i, by omega⟩
  rw [hk, show 64 - (i + 1) = k by omega, List.replicate_succ]
  rfl
theorem spTo_succ (bs : List Int) (j : Nat) : spTo bs (j + 1) = spStep (spTo bs j) j := by unfold spTo; rw [List.range_succ, List.foldl_append]; rfl
theorem spTo_len (bs : List Int) (j : Nat) : (spTo bs j).length = 64 := by
  induction j with
  | zero => exact w16_len bs 16 (by omega)
  | succ j ih => rw [spTo_succ, spStep, List.length_set, ih]
theorem spreadF_len (bs : List Int) : (spreadF bs).length = 64 := spTo_len bs 48
theorem drop4 (bs : List Int) (i : Nat) (h : 4 * i + 4 ≤ bs.length) : bs.drop (4 * i) = bs.getD (4 * i) 0 :: bs.getD (4 * i + 1) 0 :: bs.getD (4 * i + 2) 0 :: bs.getD (4 * i + 3) 0 :: bs.drop (4 * i + 4) := by
  rw [List.drop_eq_getElem_cons (by omega), List.drop_eq_getElem_cons (by omega), List.drop_eq_getElem_cons (by omega), List.drop_eq_getElem_cons (by omega)]
  simp [List.getD, show 4 * i < bs.length by omega, show 4 * i + 1 < bs.length by omega, show 4 * i + 2 < bs.length by omega, show 4 * i + 3 < bs.length by omega]

/-- an array of words in a block -/
def Ws (T : TypeId) (w : World) (g : Nat) (ws : List Int) : Prop := Cs w g (ws.map wv).toArray T
theorem Ws.cell {T : TypeId} {w : World} {g : Nat} {ws : List Int} (h : Ws T w g ws) {j : Nat} (hj : j < ws.length) : w.cell? ⟨g, j, none⟩ = some (wv (ws.getD j 0)) := by
  rw [Cs.cell h]; simp [List.getD, List.getElem?_eq_getElem hj]
theorem Ws.mod {T : TypeId} {S : Nat → Prop} {w w' : World} {g : Nat} {ws : List Int} (h : Ws T w g ws) (hm : Mod S w w') (hn : ¬ S g) : Ws T w' g ws := Cs.mod h hm hn
theorem Ws.set {T : TypeId} {w : World} {g : Nat} {ws : List Int} (h : Ws T w g ws) (j : Nat) (x : Int) : Ws T (w.setCell ⟨g, j, none⟩ (wv x)) g (ws.set j x) := by
  have := Cs.set h j (wv x)
  unfold Ws
  simpa [List.map_set] using this
theorem Ws.frozen {T : TypeId} {w : World} {g : Nat} {ws : List Int} (h : Ws T w g ws) (j : Nat) : w.frozen? ⟨g, j, none⟩ = false := Cs.frozen h j
theorem wv_one (ws : List Int) : ∀ u ∈ ws.map wv, u.oneCell' = true := ints_oneCell .u32 ws
theorem size_a64 : (Try.prog.info? 108).map (·.size) = some 64 := by kernel_rfl
theorem size_a8 : (Try.prog.info? 106).map (·.size) = some 8 := by kernel_rfl

set_option maxHeartbeats 2000000 in
theorem spread_any (v : Value) (bs : List Int) (w : World) (h : RdB w v bs) (hbl : ∀ g, v.ownBlock = some g → g < w.heap.size) (h64 : 64 ≤ bs.length) :
    Calls Try.prog 68 #[v] w fun e w' => e = .returned (.agg ((spreadF bs).map wv).toArray) ∧ Mod (fun _ => False) w w' := by
  obtain ⟨ao, cap, rfl, hc, hm⟩ := h.shape
  rw [maxLen_val] at hm
  have HR := Lib.hid h
  have HB := Lib.hid hbl
  clear h hbl
  obtain ⟨zs, hzs⟩ : ∃ zs, zs = List.replicate 64 (0 : Int) := ⟨_, rfl⟩
  obtain ⟨F, hF⟩ : ∃ F, F = spreadF bs := ⟨_, rfl⟩
  rw [← hF]
  have HZ := Lib.hid hzs
  have HFF := Lib.hid hF
  clear hzs hF
  go_enter Try.func68, Try.ntmps68
  go_wp2
  go_loopw [10] (fun t10 wr => ∃ i : Nat, t10 = .int .i64 i ∧ i ≤ 16 ∧ Ws 108 wr w.heap.size zs ∧ Ws 108 wr (w.heap.size + 1) (w16 bs i) ∧ Mod (fun _ => False) w wr) (fun t10 _ => 16 - (intOf t10).toNat)
  case atStart =>
    refine ⟨0, rfl, by omega, ?_, ?_, ?_⟩
    · rw [HZ.out]; exact (Cs.new w _ _).alloc _
    · have e : ∀ o, (w.alloc o).heap.size = w.heap.size + 1 := fun o => by simp
      unfold Ws
      rw [← e (.cells (List.replicate 64 (wv 0)).toArray 108)]
      exact Cs.new _ _ _
    · exact ((Mod.refl _ _).alloc _).alloc _
  case round =>
    obtain ⟨i, rfl, hi, hA, hB, hM⟩ := hrel
    have KA := Lib.hid hA
    have KB := Lib.hid hB
    have KM := Lib.hid hM
    have z0 := hM.size
    have zb := hB.lt
    clear hA hB hM
    by_cases hlt : i < 16
    · have hcap : ¬ cap = 4 * i := by omega
      have hle : 4 * i ≤ bs.length := by omega
      have hrd := RdB.tail_in (HR.out.mod KM.out (fun _ g hg h => h)) (4 * i) hle hcap
      rw [drop4 bs i (by omega)] at hrd
      have HRD := Lib.hid hrd
      clear hrd
      go_wp2_with fail
      refine (word_any _ _ _ _ _ _ _ HRD.out).mono ?_
      rintro e w2 ⟨rfl, hd⟩
      have hm := mod_of_drewN hd (fun _ => False)
      clear hd
      have KA2 := Lib.hid (KA.out.mod hm (fun h => h))
      have KB2 := Lib.hid (KB.out.mod hm (fun h => h))
      have KM2 := Lib.hid (KM.out.trans hm (fun _ _ h => h))
      clear hm KA KB KM
      have hci := KB2.out.cell (j := i) (by rw [w16_len _ _ (by omega)]; omega)
      have hfi := KB2.out.frozen i
      obtain ⟨x, hx⟩ : ∃ x, x = wordOf (bs.getD (4 * i) 0) (bs.getD (4 * i + 1) 0) (bs.getD (4 * i + 2) 0) (bs.getD (4 * i + 3) 0) := ⟨_, rfl⟩
      rw [← hx]
      have HX := Lib.hid hx
      clear hx
      go_wp2
      go_roundw
      case rel =>
        refine ⟨i + 1, by go_num, by omega, KA2.out.other (by simp) _, ?_, KM2.out.setCell (by first | (simp; done) | (simp; omega)) _⟩
        have := KB2.out.set i x
        rw [HX.out, show wordOf (bs.getD (4 * i) 0) (bs.getD (4 * i + 1) 0) (bs.getD (4 * i + 2) 0) (bs.getD (4 * i + 3) 0) = wAt bs i from rfl, w16_succ bs i (by omega)] at this
        rw [HX.out]
        exact this
      case measure => first | (simp [intOf]; done) | (simp [intOf]; omega)
    · obtain rfl : i = 16 := by omega
      rw [show ((16 : Nat) : Int) = 16 from rfl]
      go_wp2
      go_loopw [5] (fun t5 wr => ∃ j : Nat, t5 = .int .i64 ((j + 16 : Nat) : Int) ∧ j ≤ 48 ∧ Ws 108 wr w.heap.size zs ∧ Ws 108 wr (w.heap.size + 1) (spTo bs j) ∧ Mod (fun _ => False) w wr) (fun t5 _ => 64 - (intOf t5).toNat)
      case atStart => exact ⟨0, rfl, by omega, KA.out, KB.out, KM.out⟩
      case round =>
        obtain ⟨wi, rfl⟩ : ∃ x, x = wr := ⟨_, rfl⟩
        obtain ⟨j, rfl, hj, hA, hB, hM⟩ := hrel
        have zz := hM.size
        have zb2 := hB.lt
        clear KA KB KM
        have KA := Lib.hid hA
        have KB := Lib.hid hB
        have KM := Lib.hid hM
        clear hA hB hM
        by_cases hlt2 : j < 48
        · have c1 := KB.out.cell (j := j + 1) (by rw [spTo_len]; omega)
          have c14 := KB.out.cell (j := j + 14) (by rw [spTo_len]; omega)
          obtain ⟨x, hx⟩ : ∃ x, x = (spTo bs j).getD (j + 1) 0 := ⟨_, rfl⟩
          obtain ⟨y, hy⟩ : ∃ y, y = (spTo bs j).getD (j + 14) 0 := ⟨_, rfl⟩
          rw [← hx] at c1
          rw [← hy] at c14
          have HX := Lib.hid hx
          have HY := Lib.hid hy
          clear hx hy
          go_wp2_with fail
          go_quiet (fail)
          clear c1 c14
          obtain ⟨w1, hw1⟩ : ∃ x, x = wi.drewN nq := ⟨_, rfl⟩
          have hm := mod_of_drewN ⟨nq, hw1⟩ (fun _ => False)
          rw [← hw1]
          clear hw1
          have KA2 := Lib.hid (KA.out.mod hm (fun h => h))
          have KB2 := Lib.hid (KB.out.mod hm (fun h => h))
          have KM2 := Lib.hid (KM.out.trans hm (fun _ _ h => h))
          have zz2 := hm.size
          clear hm KA KB KM
          go_wp2_with (first | (go_at_call 69; (with_reducible refine (RL_7 _ _).mono ?_); rintro e w' ⟨rfl, rfl⟩) | (go_at_call 69; (with_reducible refine (RL_18 _ _).mono ?_); rintro e w' ⟨rfl, rfl⟩) | (go_at_call 69; (with_reducible refine (RL_17 _ _).mono ?_); rintro e w' ⟨rfl, rfl⟩) | (go_at_call 69; (with_reducible refine (RL_19 _ _).mono ?_); rintro e w' ⟨rfl, rfl⟩))
          have c0 := KB2.out.cell (j := j) (by rw [spTo_len]; omega)
          have c9 := KB2.out.cell (j := j + 9) (by rw [spTo_len]; omega)
          have c16 := KB2.out.cell (j := j + 16) (by rw [spTo_len]; omega)
          have f16 := KB2.out.frozen (j + 16)
          have b0 : (0 : Int) ≤ j := by omega
          have b1 : (j : Int) < 64 := by omega
          have b2 : (0 : Int) ≤ (j : Int) + 9 := by omega
          have b3 : (j : Int) + 9 < 64 := by omega
          have b4 : (0 : Int) ≤ (j : Int) + 16 := by omega
          have hw0 : IntKind.i64.wrap (j : Int) = j := IntWalk.i64_in _ (by omega)
          have hw9 : IntKind.i64.wrap ((j : Int) + 16 - 7) = (j : Int) + 9 := by rw [IntWalk.i64_in _ (by omega)]; omega
          have ht9 : ((j : Int) + 9).toNat = j + 9 := by omega
          have ht16 : ((j : Int) + 16).toNat = j + 16 := by omega
          obtain ⟨p, hp⟩ : ∃ p, p = (spTo bs j).getD j 0 := ⟨_, rfl⟩
          obtain ⟨q, hq⟩ : ∃ q, q = (spTo bs j).getD (j + 9) 0 := ⟨_, rfl⟩
          rw [← hp] at c0
          rw [← hq] at c9
          have HP := Lib.hid hp
          have HQ := Lib.hid hq
          clear hp hq
          have hset := KB2.out.set (j + 16) (spVal p x q y)
          rw [HP.out, HX.out, HQ.out, HY.out] at hset
          have e : (spTo bs j).set (j + 16) (spVal ((spTo bs j).getD j 0) ((spTo bs j).getD (j + 1) 0) ((spTo bs j).getD (j + 9) 0) ((spTo bs j).getD (j + 14) 0)) = spTo bs (j + 1) := (spTo_succ bs j).symm
          rw [e] at hset
          rw [← HP.out, ← HX.out, ← HQ.out, ← HY.out] at hset
          clear e
          have HSET := Lib.hid hset
          have HVAL := Lib.hid (show spVal p x q y = IntKind.u32.wrap (IntKind.u32.wrap (IntKind.u32.wrap (p + bits .xor .u32 (bits .xor .u32 (rr 7 x) (rr 18 x)) (x / 8)) + q) + bits .xor .u32 (bits .xor .u32 (rr 17 y) (rr 19 y)) (y / 1024)) by simp only [spVal, pl, xr, IntKind.wrap_u32])
          clear hset
          go_region_law (fail)
          all_goals
            rw [← HVAL.out]
            go_wp2
            go_roundw
            case rel => exact ⟨j + 1, by go_num, by omega, KA2.out.other (p := ⟨w.heap.size + 1, j + 16, none⟩) (by simp) _, HSET.out, (KM2.out.setCell (p := ⟨w.heap.size + 1, j + 16, none⟩) (by first | (simp; done) | (simp; omega)) _).drew⟩
            case measure => first | (simp [intOf]; done) | (simp [intOf]; omega)
        · obtain rfl : j = 48 := by omega
          have hFl : F.length = 64 := by rw [HFF.out]; exact spreadF_len bs
          have hzl : zs.length = 64 := by rw [HZ.out]; simp
          have hKB : Ws 108 wi (w.heap.size + 1) F := by rw [HFF.out]; exact KB.out
          have hcell : ∀ k u, (F.map wv)[k]? = some u → wi.cell? ⟨w.heap.size + 1, 0 + k, none⟩ = some u := by
            intro k u hu
            rw [Nat.zero_add, Cs.cell hKB]
            simpa using hu
          have HCELL := Lib.hid hcell
          have HS := Lib.hid (show (Try.prog.info? 108).map (·.size) = some (F.map wv).length by rw [List.length_map, hFl]; exact size_a64)
          have HF := Lib.hid (show 0 + (F.map wv).length ≤ (zs.map wv).toArray.size by simp [hFl, hzl])
          have HLY := Lib.hid (lay_whole (zs.map wv).toArray (F.map wv) (by simp [hFl, hzl]))
          clear hcell hFl hzl hKB
          go_upto_region 14 with (fail)
          go_step
          refine wpList_loadA rfl 108 (.tmp 3) rfl Try.underlying108 rfl (g := w.heap.size + 1) (off := 0) (cs := F.map wv) HS.out rfl HCELL.out ?_
          simp only [Act.put, List.setIfInBounds_toArray, List.set_cons_zero, List.set_cons_succ]
          refine wpList_storeA rfl 108 (.tmp 2) (.tmp 64) rfl KA.out (vs := F.map wv) HS.out (wv_one _) HF.out rfl rfl ?_
          intro w3 hc3 hm3
          rw [HLY.out] at hc3
          go_wp2
          refine bodyPost_ret (results_cellA rfl _ _ w.heap.size (F.map wv) rfl (fun k u hu => by rw [hc3.cell]; simpa using hu) Try.underlying108 rfl HS.out) rfl ⟨rfl, KM.out.trans (hm3.mono (S' := fun k => k = w.heap.size) (fun k _ hk => hk)) (by intro k h1 h2; omega)⟩
end Go.Proofs.Ytfgepphankfbfaa

/- sha.mix: a block goes into the state. -/
set_option maxRecDepth 100000
set_option linter.unusedVariables false
namespace Go.Proofs.Ytfgepphankfbfaa
open Go Go.RowKit Go.Gv

theorem zero_of {P : Program} {T : TypeId} {z : Value} (h : (P.info? T).bind (·.zero) = some z) : ∃ info, P.info? T = some info ∧ info.zero = some z := by
  cases hq : P.info? T with
  | none => rw [hq] at h; cases h
  | some i => rw [hq] at h; exact ⟨i, rfl, h⟩
theorem zero_a64 : (Try.prog.info? 108).bind (·.zero) = some (.agg (Array.replicate 64 (wv 0))) := by kernel_rfl
theorem zero_a8 : (Try.prog.info? 106).bind (·.zero) = some (.agg (Array.replicate 8 (wv 0))) := by kernel_rfl
theorem upd_ne {L : Nat → Bool} {i j : Nat} (h : j ≠ i) : upd L i j = L j := by simp [upd, h]
theorem upd_eq {L : Nat → Bool} {i : Nat} : upd L i i = true := by simp [upd]
theorem repl_eq (n : Nat) : (Value.agg (Array.replicate n (wv 0))).cells = ((List.replicate n 0).map wv).toArray := by
  simp only [Value.cells, List.map_replicate]
  rfl

/-- the walk of 'w, s := spread(b), h' -/
structure MixI (w0 : World) (v : Value) (hs F z8 z64 : List Int) (g3 : Nat) (L : Nat → Bool) (vs : List Value) (w : World) : Prop where
  mod : Mod (fun _ => False) w0 w
  b3 : Ws 106 w g3 hs
  v0 : L 0 = true → vs[0]? = some v
  v1 : L 1 = true → vs[1]? = some (.agg (F.map wv).toArray)
  v2 : L 2 = true → vs[2]? = some (.agg (hs.map wv).toArray)
  v3 : L 3 = true → ∃ g, vs[3]? = some (.pointer (some ⟨g, 0, none⟩)) ∧ w0.heap.size ≤ g ∧ Ws 108 w g (if L 5 then F else z64)
  v4 : L 4 = true → ∃ g, vs[4]? = some (.pointer (some ⟨g, 0, none⟩)) ∧ w0.heap.size ≤ g ∧ Ws 106 w g (if L 6 then hs else z8)
  ne : vs[3]? = vs[4]? → L 3 = true → L 4 = true → False
  d5 : L 5 = true → L 3 = true
  d6 : L 6 = true → L 4 = true

theorem MixI.world {w0 w w' : World} {v : Value} {hs F z8 z64 : List Int} {g3 : Nat} {L : Nat → Bool} {vs : List Value} (h : MixI w0 v hs F z8 z64 g3 L vs w) (hm : Mod (fun _ => False) w w') : MixI w0 v hs F z8 z64 g3 L vs w' :=
  ⟨h.mod.trans hm (fun _ _ h => h), h.b3.mod hm (fun h => h), h.v0, h.v1, h.v2,
    fun hL => by obtain ⟨g, h1, h2, h3⟩ := h.v3 hL; exact ⟨g, h1, h2, h3.mod hm (fun h => h)⟩,
    fun hL => by obtain ⟨g, h1, h2, h3⟩ := h.v4 hL; exact ⟨g, h1, h2, h3.mod hm (fun h => h)⟩, h.ne, h.d5, h.d6⟩
/-- a value at a place below the pointers -/
theorem MixI.val {w0 w : World} {v : Value} {hs F z8 z64 : List Int} {g3 : Nat} {L : Nat → Bool} {vs : List Value} (h : MixI w0 v hs F z8 z64 g3 L vs w) (hl : vs.length = 5) (i : Nat) (hi : i < 3) (x : Value)
    (hx : x = [v, .agg (F.map wv).toArray, .agg (hs.map wv).toArray].getD i undef) : MixI w0 v hs F z8 z64 g3 (upd L i) (vs.set i x) w := by
  subst hx
  have e : ∀ k, k ≠ i → (vs.set i ([v, .agg (F.map wv).toArray, .agg (hs.map wv).toArray].getD i undef))[k]? = vs[k]? := fun k hk => List.getElem?_set_ne (Ne.symm hk)
  have e' : (vs.set i ([v, .agg (F.map wv).toArray, .agg (hs.map wv).toArray].getD i undef))[i]? = some ([v, .agg (F.map wv).toArray, .agg (hs.map wv).toArray].getD i undef) := List.getElem?_set_self (by omega)
  refine ⟨h.mod, h.b3, fun hL => ?_, fun hL => ?_, fun hL => ?_, fun hL => ?_, fun hL => ?_, fun h1 h2 h3 => ?_, fun h1 => ?_, fun h1 => ?_⟩
  · by_cases hk : 0 = i
    · subst hk; rw [e']; rfl
    · rw [upd_ne hk] at hL; rw [e 0 hk]; exact h.v0 hL
  · by_cases hk : 1 = i
    · subst hk; rw [e']; rfl
    · rw [upd_ne hk] at hL; rw [e 1 hk]; exact h.v1 hL
  · by_cases hk : 2 = i
    · subst hk; rw [e']; rfl
    · rw [upd_ne hk] at hL; rw [e 2 hk]; exact h.v2 hL
  · rw [upd_ne (by omega)] at hL; rw [e 3 (by omega), upd_ne (show 5 ≠ i by omega)]; exact h.v3 hL
  · rw [upd_ne (by omega)] at hL; rw [e 4 (by omega), upd_ne (show 6 ≠ i by omega)]; exact h.v4 hL
  · rw [e 3 (by omega), e 4 (by omega)] at h1
    rw [upd_ne (by omega)] at h2 h3
    exact h.ne h1 h2 h3
  · rw [upd_ne (by omega)] at h1 ⊢; exact h.d5 h1
  · rw [upd_ne (by omega)] at h1 ⊢; exact h.d6 h1
theorem ptr_inj {g g' : Nat} (h : Value.pointer (some ⟨g, 0, none⟩) = Value.pointer (some ⟨g', 0, none⟩)) : g = g' := by simpa using h
section
variable {w0 w : World} {v : Value} {hs F z8 z64 : List Int} {g3 : Nat} {L : Nat → Bool} {vs : List Value}
theorem MixI.al3 (h : MixI w0 v hs F z8 z64 g3 L vs w) (hl : vs.length = 5) (hL : L 3 = false) : MixI w0 v hs F z8 z64 g3 (upd L 3) (vs.set 3 (.pointer (some ⟨w.heap.size, 0, none⟩))) (w.alloc (.cells (z64.map wv).toArray 108)) := by
  have h5 : L 5 = false := by cases h5 : L 5 with | false => rfl | true => rw [h.d5 h5] at hL; cases hL
  have hn := h.world ((Mod.refl (fun _ => False) w).alloc (.cells (z64.map wv).toArray 108))
  have e : ∀ k, k ≠ 3 → (vs.set 3 (.pointer (some ⟨w.heap.size, 0, none⟩)))[k]? = vs[k]? := fun k hk => List.getElem?_set_ne (Ne.symm hk)
  have e' : (vs.set 3 (.pointer (some ⟨w.heap.size, 0, none⟩)))[3]? = some (.pointer (some ⟨w.heap.size, 0, none⟩)) := List.getElem?_set_self (by omega)
  refine ⟨hn.mod, hn.b3, fun q => ?_, fun q => ?_, fun q => ?_, fun q => ?_, fun q => ?_, fun h1 h2 h3 => ?_, fun q => ?_, fun q => ?_⟩
  · rw [upd_ne (by omega)] at q; rw [e 0 (by omega)]; exact hn.v0 q
  · rw [upd_ne (by omega)] at q; rw [e 1 (by omega)]; exact hn.v1 q
  · rw [upd_ne (by omega)] at q; rw [e 2 (by omega)]; exact hn.v2 q
  · refine ⟨w.heap.size, e', h.mod.size, ?_⟩
    rw [upd_ne (by omega), h5]
    exact Cs.new _ _ _
  · rw [upd_ne (by omega)] at q; rw [e 4 (by omega), upd_ne (show 6 ≠ 3 by omega)]; exact hn.v4 q
  · rw [upd_ne (by omega)] at h3
    obtain ⟨g, a1, a2, a3⟩ := h.v4 h3
    rw [e', e 4 (by omega), a1] at h1
    have := a3.lt
    have := ptr_inj (Option.some.inj h1)
    omega
  · exact upd_eq
  · rw [upd_ne (by omega)] at q ⊢; exact h.d6 q
theorem MixI.al4 (h : MixI w0 v hs F z8 z64 g3 L vs w) (hl : vs.length = 5) (hL : L 4 = false) : MixI w0 v hs F z8 z64 g3 (upd L 4) (vs.set 4 (.pointer (some ⟨w.heap.size, 0, none⟩))) (w.alloc (.cells (z8.map wv).toArray 106)) := by
  have h5 : L 6 = false := by cases h5 : L 6 with | false => rfl | true => rw [h.d6 h5] at hL; cases hL
  have hn := h.world ((Mod.refl (fun _ => False) w).alloc (.cells (z8.map wv).toArray 106))
  have e : ∀ k, k ≠ 4 → (vs.set 4 (.pointer (some ⟨w.heap.size, 0, none⟩)))[k]? = vs[k]? := fun k hk => List.getElem?_set_ne (Ne.symm hk)
  have e' : (vs.set 4 (.pointer (some ⟨w.heap.size, 0, none⟩)))[4]? = some (.pointer (some ⟨w.heap.size, 0, none⟩)) := List.getElem?_set_self (by omega)
  refine ⟨hn.mod, hn.b3, fun q => ?_, fun q => ?_, fun q => ?_, fun q => ?_, fun q => ?_, fun h1 h2 h3 => ?_, fun q => ?_, fun q => ?_⟩
  · rw [upd_ne (by omega)] at q; rw [e 0 (by omega)]; exact hn.v0 q
  · rw [upd_ne (by omega)] at q; rw [e 1 (by omega)]; exact hn.v1 q
  · rw [upd_ne (by omega)] at q; rw [e 2 (by omega)]; exact hn.v2 q
  · rw [upd_ne (by omega)] at q; rw [e 3 (by omega), upd_ne (show 5 ≠ 4 by omega)]; exact hn.v3 q
  · refine ⟨w.heap.size, e', h.mod.size, ?_⟩
    rw [upd_ne (by omega), h5]
    exact Cs.new _ _ _
  · rw [upd_ne (by omega)] at h2
    obtain ⟨g, a1, a2, a3⟩ := h.v3 h2
    rw [e', e 3 (by omega), a1] at h1
    have := a3.lt
    have := ptr_inj (Option.some.inj h1)
    omega
  · rw [upd_ne (by omega)] at q ⊢; exact h.d5 q
  · exact upd_eq
theorem MixI.st (h : MixI w0 v hs F z8 z64 g3 L vs w) (h30 : g3 < w0.heap.size) (i : Nat) (hi : i = 5 ∨ i = 6) {w' : World} {g : Nat} (hg : vs[i - 2]? = some (.pointer (some ⟨g, 0, none⟩))) (hg0 : w0.heap.size ≤ g) (hL3 : L (i - 2) = true)
    (hm : Mod (fun k => k = g) w w') (h5 : i = 5 → Ws 108 w' g F) (h6 : i = 6 → Ws 106 w' g hs) : MixI w0 v hs F z8 z64 g3 (upd L i) vs w' := by
  refine ⟨h.mod.trans hm (fun k hk e => by omega), h.b3.mod hm (by omega), fun q => ?_, fun q => ?_, fun q => ?_, fun q => ?_, fun q => ?_, fun h1 h2 h3 => ?_, fun q => ?_, fun q => ?_⟩
  · rw [upd_ne (by omega)] at q; exact h.v0 q
  · rw [upd_ne (by omega)] at q; exact h.v1 q
  · rw [upd_ne (by omega)] at q; exact h.v2 q
  · rw [upd_ne (by omega)] at q
    obtain ⟨g', a1, a2, a3⟩ := h.v3 q
    refine ⟨g', a1, a2, ?_⟩
    rcases hi with rfl | rfl
    · rw [a1] at hg
      obtain rfl := ptr_inj (Option.some.inj hg)
      rw [upd_eq]
      exact h5 rfl
    · rw [upd_ne (by omega)]
      refine a3.mod hm (fun e => ?_)
      subst e
      exact h.ne (a1.trans hg.symm) q hL3
  · rw [upd_ne (by omega)] at q
    obtain ⟨g', a1, a2, a3⟩ := h.v4 q
    refine ⟨g', a1, a2, ?_⟩
    rcases hi with rfl | rfl
    · rw [upd_ne (by omega)]
      refine a3.mod hm (fun e => ?_)
      subst e
      exact h.ne (hg.trans a1.symm) hL3 q
    · rw [a1] at hg
      obtain rfl := ptr_inj (Option.some.inj hg)
      rw [upd_eq]
      exact h6 rfl
  · rw [upd_ne (by omega)] at h2 h3; exact h.ne h1 h2 h3
  · rcases hi with rfl | rfl
    · rw [upd_ne (by omega)]; exact hL3
    · rw [upd_ne (by omega)] at q ⊢; exact h.d5 q
  · rcases hi with rfl | rfl
    · rw [upd_ne (by omega)] at q ⊢; exact h.d6 q
    · rw [upd_ne (by omega)]; exact hL3
end

def mixT (s : List Int) (k x : Int) : Int := (s.getD 7 0 + xr (xr (rr 6 (s.getD 4 0)) (rr 11 (s.getD 4 0))) (rr 25 (s.getD 4 0)) + xr (an (s.getD 4 0) (s.getD 5 0)) (an (xr 4294967295 (s.getD 4 0)) (s.getD 6 0)) + k + x) % 4294967296
def mixU (s : List Int) : Int := (xr (xr (rr 2 (s.getD 0 0)) (rr 13 (s.getD 0 0))) (rr 22 (s.getD 0 0)) + xr (xr (an (s.getD 0 0) (s.getD 1 0)) (an (s.getD 0 0) (s.getD 2 0))) (an (s.getD 1 0) (s.getD 2 0))) % 4294967296
def mixStep (s : List Int) (k x : Int) : List Int := [pl (mixT s k x) (mixU s), s.getD 0 0, s.getD 1 0, s.getD 2 0, pl (s.getD 3 0) (mixT s k x), s.getD 4 0, s.getD 5 0, s.getD 6 0]
def mixTo (hs ks ws : List Int) (n : Nat) : List Int := (List.range n).foldl (fun s i => mixStep s (ks.getD i 0) (ws.getD i 0)) hs
def addTo (hs s : List Int) (n : Nat) : List Int := (List.range n).foldl (fun h i => h.set i (pl (h.getD i 0) (s.getD i 0))) hs
def mixF (hs ks bs : List Int) : List Int := addTo hs (mixTo hs ks (spreadF bs) 64) 8

/-- what stands in memory while a block is mixed -/
structure MixO (w0 : World) (hs ks F z8 s : List Int) (g7 g8 : Nat) (w : World) : Prop where
  k3 : Ws 106 w w0.heap.size hs
  k4 : Ws 108 w (w0.heap.size + 1) ks
  k6 : Ws 106 w (w0.heap.size + 1 + 1) z8
  k7 : Ws 108 w g7 F
  k8 : Ws 106 w g8 s
  m : Mod (fun _ => False) w0 w
theorem MixO.mod {w0 w w' : World} {hs ks F z8 s : List Int} {g7 g8 : Nat} (h : MixO w0 hs ks F z8 s g7 g8 w) (hm : Mod (fun _ => False) w w') : MixO w0 hs ks F z8 s g7 g8 w' :=
  ⟨h.k3.mod hm (fun h => h), h.k4.mod hm (fun h => h), h.k6.mod hm (fun h => h), h.k7.mod hm (fun h => h), h.k8.mod hm (fun h => h), h.m.trans hm (fun _ _ h => h)⟩
/-- the state is written anew -/
theorem MixO.put {w0 w w' : World} {hs ks F z8 s s' : List Int} {g7 g8 : Nat} (h : MixO w0 hs ks F z8 s g7 g8 w) (h8 : w0.heap.size + 3 ≤ g8) (hne : g7 ≠ g8) (hm : Mod (fun k => k = g8) w w') (hs' : Ws 106 w' g8 s') : MixO w0 hs ks F z8 s' g7 g8 w' :=
  ⟨h.k3.mod hm (by omega), h.k4.mod hm (by omega), h.k6.mod hm (by omega), h.k7.mod hm hne, hs', h.m.trans hm (fun k hk e => by omega)⟩
theorem MixO.put3 {w0 w w' : World} {hs hs' ks F z8 s : List Int} {g7 g8 : Nat} (h : MixO w0 hs ks F z8 s g7 g8 w) (h7 : w0.heap.size + 3 ≤ g7) (h8 : w0.heap.size + 3 ≤ g8) (hm : Mod (fun k => k = w0.heap.size) w w') (hs3 : Ws 106 w' w0.heap.size hs') : MixO w0 hs' ks F z8 s g7 g8 w' :=
  ⟨hs3, h.k4.mod hm (by omega), h.k6.mod hm (by omega), h.k7.mod hm (by omega), h.k8.mod hm (by omega), h.m.trans hm (fun k hk e => by omega)⟩
theorem mixTo_succ (hs ks ws : List Int) (n : Nat) : mixTo hs ks ws (n + 1) = mixStep (mixTo hs ks ws n) (ks.getD n 0) (ws.getD n 0) := by unfold mixTo; rw [List.range_succ, List.foldl_append]; rfl
theorem mixTo_len (hs ks ws : List Int) (h : hs.length = 8) (n : Nat) : (mixTo hs ks ws n).length = 8 := by
  cases n with
  | zero => exact h
  | succ n => rw [mixTo_succ]; rfl
theorem addTo_succ (hs s : List Int) (n : Nat) : addTo hs s (n + 1) = (addTo hs s n).set n (pl ((addTo hs s n).getD n 0) (s.getD n 0)) := by unfold addTo; rw [List.range_succ, List.foldl_append]; rfl
theorem addTo_len (hs s : List Int) (n : Nat) : (addTo hs s n).length = hs.length := by
  induction n with
  | zero => rfl
  | succ n ih => rw [addTo_succ, List.length_set, ih]

set_option maxHeartbeats 2000000 in
theorem mix_any (hs ks : List Int) (hl8 : hs.length = 8) (hl64 : ks.length = 64) (v : Value) (bs : List Int) (w : World) (h : RdB w v bs) (hbl : ∀ g, v.ownBlock = some g → g < w.heap.size) (h64 : 64 ≤ bs.length) :
    Calls Try.prog 44 #[.agg (hs.map wv).toArray, .agg (ks.map wv).toArray, v] w fun e w' => e = .returned (.agg ((mixF hs ks bs).map wv).toArray) ∧ Mod (fun _ => False) w w' := by
  obtain ⟨F, hF⟩ : ∃ F, F = spreadF bs := ⟨_, rfl⟩
  obtain ⟨z8, hz8⟩ : ∃ z, z = List.replicate 8 (0 : Int) := ⟨_, rfl⟩
  obtain ⟨z64, hz64⟩ : ∃ z, z = List.replicate 64 (0 : Int) := ⟨_, rfl⟩
  have hFl : F.length = 64 := by rw [hF]; exact spreadF_len bs
  have hz8l : z8.length = 8 := by rw [hz8]; simp
  have hz64l : z64.length = 64 := by rw [hz64]; simp
  have HR := Lib.hid h
  have HB := Lib.hid hbl
  have HF := Lib.hid hF
  have HZ8 := Lib.hid hz8
  have HZ64 := Lib.hid hz64
  have HL8 := Lib.hid hl8
  have HL64 := Lib.hid hl64
  have HFL := Lib.hid hFl
  have HZ8L := Lib.hid hz8l
  have HZ64L := Lib.hid hz64l
  clear h hbl hF hz8 hz64 hl8 hl64 hFl hz8l hz64l
  go_enter Try.func44, Try.ntmps44
  go_wp2_with fail
  change Code.wp _ _ _ _ (((w.alloc (.cells (hs.map wv).toArray 106)).alloc (.cells (ks.map wv).toArray 108)).alloc (.cells ((List.replicate 8 0).map wv).toArray 106))
  obtain ⟨w1, hw1⟩ : ∃ x, x = (((w.alloc (.cells (hs.map wv).toArray 106)).alloc (.cells (ks.map wv).toArray 108)).alloc (.cells ((List.replicate 8 0).map wv).toArray 106)) := ⟨_, rfl⟩
  have A3 : Ws 106 w1 w.heap.size hs := by rw [hw1]; exact ((Cs.new w _ _).alloc _).alloc _
  have A4 : Ws 108 w1 (w.heap.size + 1) ks := by
    rw [hw1, show w.heap.size + 1 = (w.alloc (.cells (hs.map wv).toArray 106)).heap.size by simp]
    exact (Cs.new _ _ _).alloc _
  have A6 : Ws 106 w1 (w.heap.size + 1 + 1) z8 := by
    rw [hw1, HZ8.out, show w.heap.size + 1 + 1 = ((w.alloc (.cells (hs.map wv).toArray 106)).alloc (.cells (ks.map wv).toArray 108)).heap.size by simp]
    exact Cs.new _ _ _
  have hm1 : Mod (fun _ => False) w w1 := by rw [hw1]; exact (((Mod.refl _ _).alloc _).alloc _).alloc _
  have hs1 : w1.heap.size = w.heap.size + 3 := by rw [hw1]; simp
  rw [← hw1]
  clear hw1
  have K3 := Lib.hid A3
  have K4 := Lib.hid A4
  have K6 := Lib.hid A6
  have KM := Lib.hid hm1
  clear A3 A4 A6 hm1
  generalize ha0 : Act.mk _ _ = a0
  have e2 : a0.eval (.tmp 2) = v := by rw [← ha0]; rfl
  have e3 : a0.eval (.tmp 3) = .pointer (some ⟨w.heap.size, 0, none⟩) := by rw [← ha0]; rfl
  have hsz : a0.tmps.size = 118 := by rw [← ha0]; rfl
  have HA0 := Lib.hid ha0
  clear ha0
  refine wp_region_each (by kernel_rfl) (by kernel_rfl) [17, 18, 19, 7, 8] (MixI w1 v hs F z8 z64 w.heap.size) ?_ ⟨?_, ?_, ?_, ?_, ?_, ?_, ?_, trivial⟩ ?_
  · exact ⟨(Mod.refl _ _).drew, K3.out, (fun h => by cases h), (fun h => by cases h), (fun h => by cases h), (fun h => by cases h), (fun h => by cases h), (fun _ h => by cases h), (fun h => by cases h), (fun h => by cases h)⟩
  · intro L vs w' hL hd hl hI
    exact wpOp_run rfl rfl (ex_move rfl (by rw [eval_out _ _ _ _ (by decide)]; exact e2)) ⟨_, putAll_put _ _ _ 0 17 _ (by decide) hl rfl, by simpa using hl, hI.val hl 0 (by omega) _ rfl⟩
  · intro L vs w' hL hd hl hI
    have h0 := hI.v0 (hd ⟨0, .data⟩ (by simp) rfl)
    have hm := KM.out.trans hI.mod (fun _ _ h => h)
    have hsp := spread_any v bs w' (HR.out.mod hm (fun _ _ _ h => h)) (fun g hg => by have := HB.out g hg; have := hm.size; omega) h64
    refine wpOp_call (args := #[v]) rfl rfl (by rw [ex_callF rfl Try.func68 (by kernel_rfl) (by kernel_rfl)]; simp [eval_in a0 _ vs 0 17 v (by decide) hl rfl (by omega) h0]) hsp ?_
    rintro e w2 ⟨rfl, hm2⟩
    exact ⟨_, rfl, _, putAll_put _ _ _ 1 18 _ (by decide) hl rfl, by simpa using hl, (hI.world hm2).val hl 1 (by omega) _ (by rw [HF.out]; rfl)⟩
  · intro L vs w' hL hd hl hI
    exact wpOp_run rfl rfl (ex_loadA rfl Try.underlying106 rfl (g := w.heap.size) (off := 0) (cs := hs.map wv) (by rw [List.length_map, HL8.out]; exact size_a8) (by rw [eval_out _ _ _ _ (by decide)]; exact e3) (fun j u hu => by rw [Nat.zero_add, Cs.cell hI.b3]; simpa using hu))
      ⟨_, putAll_put _ _ _ 2 19 _ (by decide) hl rfl, by simpa using hl, hI.val hl 2 (by omega) _ rfl⟩
  · intro L vs w' hL hd hl hI
    obtain ⟨info, hi, hz⟩ := zero_of zero_a64
    have hal := hI.al3 hl hL
    rw [HZ64.out, ← repl_eq 64] at hal
    rw [← HZ64.out] at hal
    exact wpOp_run rfl rfl (ex_alloc rfl hi hz) ⟨_, putAll_put _ _ _ 3 7 _ (by decide) hl rfl, by simpa using hl, hal⟩
  · intro L vs w' hL hd hl hI
    obtain ⟨info, hi, hz⟩ := zero_of zero_a8
    have hal := hI.al4 hl hL
    rw [HZ8.out, ← repl_eq 8] at hal
    rw [← HZ8.out] at hal
    exact wpOp_run rfl rfl (ex_alloc rfl hi hz) ⟨_, putAll_put _ _ _ 4 8 _ (by decide) hl rfl, by simpa using hl, hal⟩
  · intro L vs w' hL hd hl hI
    have hL3 := hd ⟨3, .data⟩ (by simp) rfl
    have h1 := hI.v1 (hd ⟨1, .data⟩ (by simp) rfl)
    have h5f : L 5 = false := hL
    obtain ⟨g, a1, a2, a3⟩ := hI.v3 hL3
    rw [h5f] at a3
    refine wpOp_skip rfl rfl (ex_storeA rfl a3 (off := 0) (vs := F.map wv) (by rw [List.length_map, HFL.out]; exact size_a64) (wv_one _) (by simp [HFL.out, HZ64L.out]) (eval_in a0 _ vs 3 7 _ (by decide) hl rfl (by omega) a1) (by rw [eval_in a0 _ vs 1 18 _ (by decide) hl rfl (by omega) h1]; rfl)) ⟨vs, rfl, hl, ?_⟩
    rw [lay_whole _ _ (by simp [HFL.out, HZ64L.out])]
    exact hI.st (by omega) 5 (Or.inl rfl) a1 a2 hL3 setRow_Mod (fun _ => setRow_Cs a3) (fun h => by cases h)
  · intro L vs w' hL hd hl hI
    have hL3 := hd ⟨4, .data⟩ (by simp) rfl
    have h1 := hI.v2 (hd ⟨2, .data⟩ (by simp) rfl)
    have h5f : L 6 = false := hL
    obtain ⟨g, a1, a2, a3⟩ := hI.v4 hL3
    rw [h5f] at a3
    refine wpOp_skip rfl rfl (ex_storeA rfl a3 (off := 0) (vs := hs.map wv) (by rw [List.length_map, HL8.out]; exact size_a8) (wv_one _) (by simp [HL8.out, HZ8L.out]) (eval_in a0 _ vs 4 8 _ (by decide) hl rfl (by omega) a1) (by rw [eval_in a0 _ vs 2 19 _ (by decide) hl rfl (by omega) h1]; rfl)) ⟨vs, rfl, hl, ?_⟩
    rw [lay_whole _ _ (by simp [HL8.out, HZ8L.out])]
    exact hI.st (by omega) 6 (Or.inr rfl) a1 a2 hL3 setRow_Mod (fun h => by cases h) (fun _ => setRow_Cs a3)
  intro L vs w2 hL hl hI
  obtain ⟨g7, a1, a2, a3⟩ := hI.v3 (hL 3 (by decide))
  obtain ⟨g8, b1, b2, b3⟩ := hI.v4 (hL 4 (by decide))
  have hne : g7 ≠ g8 := fun e => hI.ne (by rw [a1, b1, e]) (hL 3 (by decide)) (hL 4 (by decide))
  rw [if_pos (hL 5 (by decide))] at a3
  rw [if_pos (hL 6 (by decide))] at b3
  have hm := hI.mod
  have K3' := Lib.hid (K3.out.mod hm (fun h => h))
  have K4' := Lib.hid (K4.out.mod hm (fun h => h))
  have K6' := Lib.hid (K6.out.mod hm (fun h => h))
  have KM' := Lib.hid (KM.out.trans hm (fun _ _ h => h))
  have K7 := Lib.hid a3
  have K8 := Lib.hid b3
  match vs, hl with
  | [u17, u18, u19, p7, p8], _ =>
  obtain rfl : p7 = _ := Option.some.inj a1
  obtain rfl : p8 = _ := Option.some.inj b1
  have zg7 := a3.lt
  have zg8 := b3.lt
  clear K3 K4 K6 KM a3 b3 hI a1 b1 hL e2 e3 hsz hm
  have ha0 := HA0.out
  subst ha0
  clear HA0
  simp only [putAll, Act.put, List.setIfInBounds_toArray, List.set_cons_zero, List.set_cons_succ]
  have hO : MixO w hs ks F z8 hs g7 g8 w2 := ⟨K3'.out, K4'.out, K6'.out, K7.out, K8.out, KM'.out⟩
  have HO := Lib.hid hO
  clear hO K3' K4' K6' K7 K8 KM'
  have hg7 : w.heap.size + 3 ≤ g7 := by omega
  have hg8 : w.heap.size + 3 ≤ g8 := by omega
  have HNE := Lib.hid hne
  clear hne a2 b2
  go_wp2
  go_loopw [20] (fun t20 wr => ∃ (i : Nat), t20 = .int .i64 i ∧ i ≤ 64 ∧ MixO w hs ks F z8 (mixTo hs ks F i) g7 g8 wr) (fun t20 _ => 64 - (intOf t20).toNat)
  case atStart => exact ⟨0, rfl, by omega, HO.out⟩
  case round =>
    obtain ⟨wi, rfl⟩ : ∃ x, x = wr := ⟨_, rfl⟩
    obtain ⟨i, rfl, hi, hO⟩ := hrel
    have hsl := mixTo_len hs ks F HL8.out i
    have hsucc := mixTo_succ hs ks F i
    obtain ⟨s, hs'⟩ : ∃ s, s = mixTo hs ks F i := ⟨_, rfl⟩
    rw [← hs'] at hO hsl hsucc
    have KO := Lib.hid hO
    have HS := Lib.hid hsucc
    have HSE := Lib.hid hs'
    clear hO hsucc hs'
    by_cases hlt : i < 64
    · match s, hsl with
      | [s0, s1, s2, s3, s4, s5, s6, s7], _ =>
      obtain ⟨k, hk⟩ : ∃ k, k = ks.getD i 0 := ⟨_, rfl⟩
      obtain ⟨x, hx⟩ : ∃ x, x = F.getD i 0 := ⟨_, rfl⟩
      have HK := Lib.hid hk
      have HX := Lib.hid hx
      clear hk hx
      have c0 : wi.cell? ⟨g8, 0, none⟩ = some (wv s0) := KO.out.k8.cell (j := 0) (by simp)
      have c4 : wi.cell? ⟨g8, 4, none⟩ = some (wv s4) := KO.out.k8.cell (j := 4) (by simp)
      go_wp2_with fail
      go_quiet (fail)
      clear c0 c4
      obtain ⟨w3, hw3⟩ : ∃ x, x = wi.drewN nq := ⟨_, rfl⟩
      have KO2 := Lib.hid (KO.out.mod (mod_of_drewN ⟨nq, hw3⟩ (fun _ => False)))
      rw [← hw3]
      clear hw3 KO
      go_wp2_with (first | (go_at_call 69; (with_reducible refine (RL_6 _ _).mono ?_); rintro e w' ⟨rfl, rfl⟩) | (go_at_call 69; (with_reducible refine (RL_11 _ _).mono ?_); rintro e w' ⟨rfl, rfl⟩) | (go_at_call 69; (with_reducible refine (RL_25 _ _).mono ?_); rintro e w' ⟨rfl, rfl⟩))
      have hsg : (if IntKind.u32.signed = true then (-1 : Int) else IntKind.u32.max) = 4294967295 := rfl
      have c5 : w3.cell? ⟨g8, 5, none⟩ = some (wv s5) := KO2.out.k8.cell (j := 5) (by simp)
      have c6 : w3.cell? ⟨g8, 6, none⟩ = some (wv s6) := KO2.out.k8.cell (j := 6) (by simp)
      have c7 : w3.cell? ⟨g8, 7, none⟩ = some (wv s7) := KO2.out.k8.cell (j := 7) (by simp)
      have ck : w3.cell? ⟨w.heap.size + 1, i, none⟩ = some (wv k) := by rw [HK.out]; exact KO2.out.k4.cell (by rw [HL64.out]; omega)
      have cx : w3.cell? ⟨g7, i, none⟩ = some (wv x) := by rw [HX.out]; exact KO2.out.k7.cell (by rw [HFL.out]; omega)
      go_quiet (fail)
      clear c5 c6 c7 ck cx hsg
      obtain ⟨w4, hw4⟩ : ∃ x, x = w3.drewN nq := ⟨_, rfl⟩
      have KO3 := Lib.hid (KO2.out.mod (mod_of_drewN ⟨nq, hw4⟩ (fun _ => False)))
      rw [← hw4]
      clear hw4 KO2
      have c0 : w4.cell? ⟨g8, 0, none⟩ = some (wv s0) := KO3.out.k8.cell (j := 0) (by simp)
      have c1 : w4.cell? ⟨g8, 1, none⟩ = some (wv s1) := KO3.out.k8.cell (j := 1) (by simp)
      have c2 : w4.cell? ⟨g8, 2, none⟩ = some (wv s2) := KO3.out.k8.cell (j := 2) (by simp)
      have c3 : w4.cell? ⟨g8, 3, none⟩ = some (wv s3) := KO3.out.k8.cell (j := 3) (by simp)
      have c4 : w4.cell? ⟨g8, 4, none⟩ = some (wv s4) := KO3.out.k8.cell (j := 4) (by simp)
      have c5 : w4.cell? ⟨g8, 5, none⟩ = some (wv s5) := KO3.out.k8.cell (j := 5) (by simp)
      have c6 : w4.cell? ⟨g8, 6, none⟩ = some (wv s6) := KO3.out.k8.cell (j := 6) (by simp)
      have HF8 := Lib.hid (show 0 + ((mixStep [s0, s1, s2, s3, s4, s5, s6, s7] k x).map wv).length ≤ ([s0, s1, s2, s3, s4, s5, s6, s7].map wv).toArray.size by simp [mixStep])
      have HS8 := Lib.hid (show (Try.prog.info? 106).map (·.size) = some ((mixStep [s0, s1, s2, s3, s4, s5, s6, s7] k x).map wv).length from size_a8)
      have HLY := Lib.hid (lay_whole ([s0, s1, s2, s3, s4, s5, s6, s7].map wv).toArray ((mixStep [s0, s1, s2, s3, s4, s5, s6, s7] k x).map wv) (by simp [mixStep]))
      go_upto_region 10 with (first | (go_at_call 69; (with_reducible refine (RL_2 _ _).mono ?_); rintro e w' ⟨rfl, rfl⟩) | (go_at_call 69; (with_reducible refine (RL_13 _ _).mono ?_); rintro e w' ⟨rfl, rfl⟩) | (go_at_call 69; (with_reducible refine (RL_22 _ _).mono ?_); rintro e w' ⟨rfl, rfl⟩))
      go_wp2_with ((with_reducible show wpList _ _ _ (Oper.mk none (Op.store 106 (.tmp 8) (.tmp 102)) _ _ _ _ :: _) _ _); refine wpList_storeA rfl 106 (.tmp 8) (.tmp 102) rfl KO3.out.k8 (off := 0) (vs := (mixStep [s0, s1, s2, s3, s4, s5, s6, s7] k x).map wv) HS8.out (wv_one _) HF8.out rfl ?_ ?_)
      · dsimp only [Act.eval]
        simp [Value.cells, mixStep, mixT, mixU, pl, xr, an]
        trace_state
      · intro w5 hc5 hm5
        have hk8 : Ws 106 w5 g8 (mixStep [s0, s1, s2, s3, s4, s5, s6, s7] k x) := by unfold Ws; rw [← HLY.out]; exact hc5
        have KO5 := Lib.hid (KO3.out.put hg8 HNE.out hm5 hk8)
        clear hc5 hm5 hk8 KO3 c0 c1 c2 c3 c4 c5 c6
        go_wp2
        go_roundw
        case rel => exact ⟨i + 1, by go_num, by omega, by rw [HS.out, ← HK.out, ← HX.out]; exact KO5.out⟩
        case measure => first | (simp [intOf]; done) | (simp [intOf]; omega)
    · obtain rfl : i = 64 := by omega
      rw [HSE.out] at HS KO
      obtain ⟨S, hS⟩ : ∃ S, S = mixTo hs ks F 64 := ⟨_, rfl⟩
      rw [← hS] at KO
      have hSl : S.length = 8 := by rw [hS]; exact mixTo_len hs ks F HL8.out 64
      have HSS := Lib.hid hS
      have HSL := Lib.hid hSl
      clear hS hSl HS HSE hsl
      rw [show ((64 : Nat) : Int) = 64 from rfl]
      go_wp2
      go_loopw [104] (fun t104 wr => ∃ (i : Nat), t104 = .int .i64 i ∧ i ≤ 8 ∧ MixO w (addTo hs S i) ks F z8 S g7 g8 wr) (fun t104 _ => 8 - (intOf t104).toNat)
      case atStart => exact ⟨0, rfl, by omega, KO.out⟩
      case round =>
        obtain ⟨wj, rfl⟩ : ∃ x, x = wr := ⟨_, rfl⟩
        obtain ⟨i, rfl, hi, hO⟩ := hrel
        clear KO
        have hsl := addTo_len hs S i
        have hsucc := addTo_succ hs S i
        obtain ⟨A, hA⟩ : ∃ A, A = addTo hs S i := ⟨_, rfl⟩
        rw [← hA] at hO hsl hsucc
        rw [HL8.out] at hsl
        have KO := Lib.hid hO
        have HS := Lib.hid hsucc
        have HAL := Lib.hid hsl
        have HAA := Lib.hid hA
        clear hO hsucc hsl hA
        by_cases hlt : i < 8
        · obtain ⟨x, hx⟩ : ∃ x, x = A.getD i 0 := ⟨_, rfl⟩
          obtain ⟨y, hy⟩ : ∃ y, y = S.getD i 0 := ⟨_, rfl⟩
          have c3 : wj.cell? ⟨w.heap.size, i, none⟩ = some (wv x) := by rw [hx]; exact KO.out.k3.cell (by rw [HAL.out]; omega)
          have f3 := KO.out.k3.frozen i
          have c8 : wj.cell? ⟨g8, i, none⟩ = some (wv y) := by rw [hy]; exact KO.out.k8.cell (by rw [HSL.out]; omega)
          rw [← hx, ← hy] at HS
          have HX := Lib.hid hx
          have HY := Lib.hid hy
          have hset := KO.out.k3.set i (pl x y)
          have hm : Mod (fun k => k = w.heap.size) wj (wj.setCell ⟨w.heap.size, i, none⟩ (wv (pl x y))) := Mod.setCell (Mod.refl (fun k => k = w.heap.size) wj) (p := ⟨w.heap.size, i, none⟩) (fun _ => rfl) _
          have hko := KO.out.put3 hg7 hg8 hm hset
          rw [← HS.out] at hko
          have KO2 := Lib.hid hko
          have HV := Lib.hid (show pl x y = IntKind.u32.wrap (x + y) by simp only [pl, IntKind.wrap_u32])
          have b0 : (0 : Int) ≤ i := by omega
          have b1 : (i : Int) < 8 := by omega
          clear hx hy hset hm hko
          go_wp2_with fail
          go_region_law (fail)
          all_goals
            clear c3 f3 c8
            rw [← HV.out]
            go_wp2
            go_roundw
            case rel => exact ⟨i + 1, by go_num, by omega, KO2.out.mod ((Mod.refl (fun _ => False) _).drew)⟩
            case measure => first | (simp [intOf]; done) | (simp [intOf]; omega)
        · obtain rfl : i = 8 := by omega
          have hR : A = mixF hs ks bs := by rw [HAA.out, HSS.out, HF.out]; rfl
          have HRR := Lib.hid hR
          have HCELL := Lib.hid (show ∀ k u, (A.map wv)[k]? = some u → wj.cell? ⟨w.heap.size, 0 + k, none⟩ = some u by
            intro k u hu
            rw [Nat.zero_add, Cs.cell KO.out.k3]
            simpa using hu)
          have HSA := Lib.hid (show (Try.prog.info? 106).map (·.size) = some (A.map wv).length by rw [List.length_map, HAL.out]; exact size_a8)
          have HFA := Lib.hid (show 0 + (A.map wv).length ≤ (z8.map wv).toArray.size by simp [HAL.out, HZ8L.out])
          have HLY := Lib.hid (lay_whole (z8.map wv).toArray (A.map wv) (by simp [HAL.out, HZ8L.out]))
          clear hR
          go_upto_region 17 with (fail)
          go_step
          refine wpList_loadA rfl 106 (.tmp 3) rfl Try.underlying106 rfl (g := w.heap.size) (off := 0) (cs := A.map wv) HSA.out rfl HCELL.out ?_
          simp only [Act.put, List.setIfInBounds_toArray, List.set_cons_zero, List.set_cons_succ]
          refine wpList_storeA rfl 106 (.tmp 6) (.tmp 117) rfl KO.out.k6 (vs := A.map wv) HSA.out (wv_one _) HFA.out rfl rfl ?_
          intro w5 hc5 hm5
          rw [HLY.out] at hc5
          go_wp2
          refine bodyPost_ret (results_cellA rfl _ _ (w.heap.size + 1 + 1) (A.map wv) rfl (fun k u hu => by rw [hc5.cell]; simpa using hu) Try.underlying106 rfl HSA.out) rfl ⟨by rw [HRR.out], KO.out.m.trans (hm5.mono (S' := fun k => k = w.heap.size + 1 + 1) (fun k _ hk => hk)) (by intro k h1 h2; omega)⟩
end Go.Proofs.Ytfgepphankfbfaa

/- Package gavelkeep: what its functions over numbers and bytes do. -/
set_option maxRecDepth 100000
namespace Go.Proofs.Ytfgepphankfbfaa
open Go Go.RowKit Go.Gv

def within (v n : Int) : Int := if n < 1 then 0 else v % n

theorem within_tmod (v n : Int) (hn : 1 ≤ n) : within v n = if v.tmod n < 0 then v.tmod n + n else v.tmod n := by
  unfold within
  rw [if_neg (by omega)]
  have h1 := Int.emod_nonneg v (b := n) (by omega)
  have h2 := Int.emod_lt_of_pos v (b := n) (by omega)
  rw [Int.tmod_eq_emod]
  split <;> split <;> omega
theorem within_range (v n : Int) (hn : 1 ≤ n) : 0 ≤ within v n ∧ within v n < n := by
  unfold within
  rw [if_neg (by omega)]
  exact ⟨Int.emod_nonneg v (by omega), Int.emod_lt_of_pos v (by omega)⟩

theorem Within_any (v n : Int) (hn : 1 ≤ n) (hn2 : n ≤ 9223372036854775807) (_hv : -9223372036854775808 ≤ v ∧ v ≤ 9223372036854775807) (w : World) :
    Calls Try.prog 14 #[.int .i64 v, .int .i64 n] w fun e w' => e = .returned (.int .i64 (within v n)) ∧ w = w' := by
  have hh := within_tmod v n hn
  have hl : -n < v.tmod n ∧ v.tmod n < n := by
    have h1 := Int.emod_nonneg v (b := n) (by omega)
    have h2 := Int.emod_lt_of_pos v (b := n) (by omega)
    rw [Int.tmod_eq_emod]
    split <;> omega
  have HH := Lib.hid hh; clear hh
  go_enter Try.func14, Try.ntmps14
  go_wp2
  all_goals go_ret
  · exact ⟨ret_int (by rw [HH.out, if_pos (by assumption)]), rfl⟩
  · exact ⟨ret_int (by rw [HH.out, if_neg (by omega)]), rfl⟩

theorem Copy_any (v : Value) (bs : List Int) (w : World) (hr : RdB w v bs) (hl : bs.length ≤ Room) :
    Calls Try.prog 18 #[v] w fun e w' => ∃ ao cap, e = .returned (.slice ao bs.length cap) ∧ OwnB w' (.slice ao bs.length cap) bs ∧ Fresh w (.slice ao bs.length cap) ∧ Mod (fun _ => False) w w' := by
  have Hl := Lib.hid (show ([] : List Int).length + bs.length ≤ Room by simpa using hl)
  clear hl
  go_enter Try.func18, Try.ntmps18
  go_wp2_with (at_builtin; refine wpList_appB rfl (.const (.slice none 0 0)) (.tmp 3) rfl rfl (OwnB.nil _) (new := bs) rfl hr Hl.out ?_)
  intro ao cap w1 happ
  have HA := Lib.hid happ
  clear happ
  go_wp2
  go_ret
  obtain ⟨h1, h2, h3⟩ := HA.out
  simp only [List.length_nil, Nat.zero_add] at *
  refine ⟨ao, cap, rfl, h1, ?_, h2.mono (fun k _ hk => by simp [Value.ownBlock] at hk)⟩
  intro g hg
  rcases h3 with h3 | ⟨k, h3, hk⟩
  · rw [h3] at hg; cases hg
  · rw [h3] at hg; simp at hg; omega

theorem Cut_any (ao : Option Addr) (len cap : Nat) (bs : List Int) (n : Nat) (w : World) (hr : RdB w (.slice ao len cap) bs) (hn : n ≤ 1000000) :
    Calls Try.prog 15 #[.slice ao len cap, .int .i64 n] w fun e w' => ∃ ao cap, e = .returned (.slice ao (bs.take n).length cap) ∧ OwnB w' (.slice ao (bs.take n).length cap) (bs.take n) ∧ Fresh w (.slice ao (bs.take n).length cap) ∧ Mod (fun _ => False) w w' := by
  obtain ⟨rfl, hlc, hcm⟩ := hr.len
  rw [maxLen_val] at hcm
  by_cases h : bs.length ≤ n
  · have key := fun w => fun hr => Copy_any (.slice ao bs.length cap) (bs.take n) w hr (by simp; unfold Room; omega)
    have hr' : RdB w (.slice ao bs.length cap) (bs.take n) := by rw [List.take_of_length_le h]; exact hr
    have K := Lib.hid key
    clear key
    generalize bs.take n = ds at *
    go_enter Try.func15, Try.ntmps15
    go_wp2_with (go_at_call 18; go_must (refine (K.out _ hr').mono ?_); rintro e w1 ⟨ao1, cap1, rfl, h1, h2, h3⟩; have H1 := Lib.hid h1; have H2 := Lib.hid h2; have H3 := Lib.hid h3; clear h1 h2 h3)
    go_ret
    exact ⟨ao1, cap1, rfl, H1.out, H2.out, H3.out⟩
  · have key := fun w => fun hr => Copy_any (.slice ao n cap) (bs.take n) w hr (by simp; unfold Room; omega)
    have hr' : RdB w (.slice ao n cap) (bs.take n) := hr.upto n (by omega)
    have K := Lib.hid key
    clear key
    generalize bs.take n = ds at *
    go_enter Try.func15, Try.ntmps15
    go_wp2_with (go_at_call 18; go_must (refine (K.out _ hr').mono ?_); rintro e w1 ⟨ao1, cap1, rfl, h1, h2, h3⟩; have H1 := Lib.hid h1; have H2 := Lib.hid h2; have H3 := Lib.hid h3; clear h1 h2 h3)
    go_ret
    exact ⟨ao1, cap1, rfl, H1.out, H2.out, H3.out⟩

end Go.Proofs.Ytfgepphankfbfaa

/- code.Reader: what each of its methods reads, and what is left. -/
set_option maxRecDepth 100000
namespace Go.Proofs.Ytfgepphankfbfaa
open Go Go.RowKit Go.Gv

/-! ### what a reader answers: its state is 'none' once it has failed, else the bytes that are left -/
def decGo : Nat → Nat → List Int → Option (Nat × List Int)
  | _, _, [] => none
  | i, acc, c :: cs =>
    if i = 9 ∧ 1 < c then none
    else if c < 128 then (if c = 0 ∧ 0 < i then none else some (acc + c.toNat * 2 ^ (7 * i), cs))
    else decGo (i + 1) (acc + (c.toNat - 128) * 2 ^ (7 * i)) cs

abbrev RSt := Option (List Int)
def rNum : RSt → Nat × RSt
  | none => (0, none)
  | some bs => match decGo 0 0 bs with
    | some (n, r) => (n, some r)
    | none => (0, none)
def rTake (n : Nat) : RSt → List Int × RSt
  | none => ([], none)
  | some bs => if bs.length < n then ([], none) else (bs.take n, some (bs.drop n))
def rInt (most : Int) (s : RSt) : Nat × RSt :=
  if (rNum s).2.isNone ∨ most < 0 ∨ most < (rNum s).1 then (0, none) else rNum s
def rRow (most : Int) (s : RSt) : List Int × RSt := rTake (rInt most s).1 (rInt most s).2
def rHash (s : RSt) : List Int × RSt :=
  match rTake 32 s with
  | (_, none) => (List.replicate 32 0, none)
  | (b, some r) => (b, some r)

/-- a reader: its bytes, whether it has failed -/
def Rr (T : TypeId) (w : World) (r : Nat) (v : Value) (s : RSt) : Prop := Cs w r #[v, .bool s.isNone] T ∧ RdB w v (s.getD []) ∧ Apart v (s.getD []).length (fun k => k = r)
/-- what has become of a reader: its slice lies where it lay -/
def RrTo (T : TypeId) (w : World) (r : Nat) (v : Value) (s : RSt) (w' : World) : Prop :=
  ∃ v', Rr T w' r v' s ∧ Mod (fun k => k = r) w w' ∧ (0 < (s.getD []).length → v'.ownBlock = v.ownBlock)

theorem Rr.mod {T : TypeId} {S : Nat → Prop} {w w' : World} {r : Nat} {v : Value} {s : RSt} (h : Rr T w r v s) (hm : Mod S w w') (hr : ¬ S r) (hv : Apart v (s.getD []).length S) : Rr T w' r v s :=
  ⟨h.1.mod hm hr, h.2.1.mod hm hv, h.2.2⟩

theorem RrTo.trans {T : TypeId} {w w1 w2 : World} {r : Nat} {v v1 : Value} {s1 s2 : RSt} (hm : Mod (fun k => k = r) w w1) (hb : 0 < (s1.getD []).length → v1.ownBlock = v.ownBlock)
    (h : RrTo T w1 r v1 s2 w2) (hl : (s2.getD []).length ≤ (s1.getD []).length) : RrTo T w r v s2 w2 := by
  obtain ⟨v2, h1, h2, h3⟩ := h
  exact ⟨v2, h1, hm.trans h2 (fun _ _ h => h), fun h => (h3 h).trans (hb (by omega))⟩

end Go.Proofs.Ytfgepphankfbfaa

/- code.Reader.Num: the next number. -/
set_option maxRecDepth 100000
namespace Go.Proofs.Ytfgepphankfbfaa
open Go Go.RowKit Go.Gv

/-- an array of 32 bytes, as a value -/
def hv (h : List Int) : Value := .agg (h.map bv).toArray

theorem size_hash : (Try.prog.info? 26).map (·.size) = some 32 := by kernel_rfl

end Go.Proofs.Ytfgepphankfbfaa

/- code.Writer: what each of its methods does to the bytes written. -/
set_option maxRecDepth 100000
namespace Go.Proofs.Ytfgepphankfbfaa
open Go Go.RowKit Go.Gv

/-- seven binary digits a byte, the lowest first -/
def encN (n : Nat) : List Int := if n < 128 then [(n : Int)] else ((n : Int) % 128 + 128) :: encN (n / 128)
termination_by n
decreasing_by omega

theorem encN_lt {n : Nat} (h : n < 128) : encN n = [(n : Int)] := by rw [encN, if_pos h]
theorem encN_ge {n : Nat} (h : 128 ≤ n) : encN n = ((n : Int) % 128 + 128) :: encN (n / 128) := by rw [encN, if_neg (by omega)]
theorem encN_len (k : Nat) : ∀ n, n < 128 ^ (k + 1) → 1 ≤ (encN n).length ∧ (encN n).length ≤ k + 1 := by
  induction k with
  | zero => intro n hn; rw [encN_lt (by omega)]; simp
  | succ k ih =>
    intro n hn
    by_cases h : n < 128
    · rw [encN_lt h]; simp
    · rw [encN_ge (by omega)]
      have := ih (n / 128) (by rw [Nat.pow_succ] at hn; omega)
      simp only [List.length_cons]; omega
theorem encN_pos (n : Nat) : 1 ≤ (encN n).length := by
  by_cases h : n < 128
  · rw [encN_lt h]; simp
  · rw [encN_ge (by omega)]; simp
theorem encN_len10 {n : Nat} (h : n < U64) : 1 ≤ (encN n).length ∧ (encN n).length ≤ 10 :=
  encN_len 9 n (Nat.lt_of_lt_of_le h (by unfold U64; decide))

theorem or128 (m : Nat) : bits .or .u8 ((m : Int) % 256) 128 = (m : Int) % 128 + 128 := by
  have e : ((m : Int) % 256) = ((m % 256 : Nat) : Int) := by omega
  have h := u8_or_nat (m % 256) 128 (by omega) (by omega)
  rw [e]
  refine h.trans ?_
  have d : ∀ x, x < 256 → x ||| 128 = x % 128 + 128 := by decide
  rw [d _ (by omega), Nat.mod_mod_of_dvd _ (by decide)]; omega

def Wr (w : World) (b : Nat) (v : Value) (bs : List Int) : Prop := Cs w b #[v] 149 ∧ OwnB w v bs
def WrTo (w : World) (b : Nat) (v : Value) (bs : List Int) (w' : World) : Prop :=
  ∃ v', Wr w' b v' bs ∧ Mod (fun k => k = b ∨ some k = v.ownBlock) w w' ∧ (v'.ownBlock = v.ownBlock ∨ ∃ k, v'.ownBlock = some k ∧ w.heap.size ≤ k)

theorem Wr.mod {S : Nat → Prop} {w w' : World} {b : Nat} {v : Value} {bs : List Int} (h : Wr w b v bs) (hm : Mod S w w') (hb : ¬ S b) (hv : ∀ g, v.ownBlock = some g → ¬ S g) : Wr w' b v bs :=
  ⟨h.1.mod hm hb, OwnB.mod h.2 hm hv⟩
theorem WrTo.refl {w : World} {b : Nat} {v : Value} {bs : List Int} (h : Wr w b v bs) : WrTo w b v bs w := ⟨v, h, Mod.refl _ _, .inl rfl⟩

theorem WrTo.trans {w w1 w2 : World} {b : Nat} {v v1 : Value} {bs2 : List Int} (hm : Mod (fun k => k = b ∨ some k = v.ownBlock) w w1)
    (hf : v1.ownBlock = v.ownBlock ∨ ∃ k, v1.ownBlock = some k ∧ w.heap.size ≤ k) (h : WrTo w1 b v1 bs2 w2) : WrTo w b v bs2 w2 := by
  obtain ⟨v', h1, h2, h3⟩ := h
  refine ⟨v', h1, hm.trans h2 ?_, ?_⟩
  · intro i hi hS
    rcases hS with hS | hS
    · exact .inl hS
    · rcases hf with hf | ⟨k, hf, hk⟩
      · exact .inr (hS.trans hf)
      · rw [hf] at hS; simp at hS; omega
  · rcases h3 with h3 | ⟨k, h3, hk⟩
    · rw [h3]; exact hf
    · exact .inr ⟨k, h3, Nat.le_trans hm.size hk⟩

/-- the store of what an append gave into the writer -/
theorem Wr_step {w w1 : World} {b : Nat} {v : Value} {bs : List Int} {v1 : Value} (hW : Wr w b v bs) (wx : World) (hx : Mod (fun _ => False) w wx) (new : List Int)
    (h : AppB wx v (bs ++ new) v1 w1) (hv : v.ownBlock ≠ some b) :
    w1.cell? ⟨b, 0, none⟩ = some v ∧ w1.frozen? ⟨b, 0, none⟩ = false ∧ WrTo w b v (bs ++ new) (w1.setCell ⟨b, 0, none⟩ v1) := by
  obtain ⟨hc, ho⟩ := hW
  obtain ⟨h1, h2, h3⟩ := h
  have hb : ¬ (some b = v.ownBlock) := fun e => hv e.symm
  have hc1 : Cs w1 b #[v] 149 := (hc.mod hx id).mod h2 hb
  refine ⟨by rw [hc1.cell]; rfl, hc1.frozen 0, v1, ⟨hc1.set 0 v1, ?_⟩, ?_, ?_⟩
  · refine Own.other h1 ?_ _
    intro g hg e
    subst e
    rcases h3 with h3 | ⟨k, h3, hk⟩
    · rw [h3] at hg; exact hv hg
    · rw [h3] at hg; simp at hg; subst hg; have := hc.lt; have := hx.size; omega
  · exact ((hx.mono (fun _ _ h => h.elim)).trans h2 (fun i _ h => .inr h)).setCell (fun _ => .inl rfl) _
  · rcases h3 with h3 | ⟨k, h3, hk⟩
    · exact .inl h3
    · exact .inr ⟨k, h3, Nat.le_trans hx.size hk⟩

theorem Wr_ne {w : World} {b : Nat} {v : Value} {bs : List Int} (hW : Wr w b v bs) : v.ownBlock ≠ some b := by
  obtain ⟨hc, _, _, ⟨rfl, _⟩ | ⟨g, cap, cur, rfl, hg, _⟩⟩ := hW
  · simp [Value.ownBlock]
  · simp only [Value.ownBlock, ne_eq, Option.some.injEq]
    intro e
    subst e
    unfold Cs at hc hg
    rw [hc] at hg
    simp at hg

theorem Num_any (b n : Nat) (v : Value) (bs : List Int) (w : World) (hW : Wr w b v bs) (hn : n < U64) (hl : bs.length + 10 ≤ Room) :
    Calls Try.prog 82 #[.pointer (some ⟨b, 0, none⟩), .int .u64 n] w fun e w' => e = .returned (.pointer (some ⟨b, 0, none⟩)) ∧ WrTo w b v (bs ++ encN n) w' := by
  have hen := encN_len10 hn
  clear hn
  go_enter Try.func82, Try.ntmps82
  go_wp2
  go_loopw [1] (fun t wr => ∃ (m : Nat) (bs' : List Int), t = .int .u64 m ∧ m ≤ n ∧ bs' ++ encN m = bs ++ encN n ∧ WrTo w b v bs' wr) (fun t _ => (intOf t).toNat)
  case atStart => exact ⟨n, bs, rfl, Nat.le_refl _, rfl, .refl hW⟩
  case round =>
    obtain ⟨m, bs', rfl, hm, hbs, v', hW', hmod, hfr⟩ := hrel
    have hlen : bs'.length + (encN m).length = bs.length + (encN n).length := by have := congrArg List.length hbs; simpa using this
    have hcell : wr.cell? ⟨b, 0, none⟩ = some v' := (hW'.1.cell 0).trans rfl
    have hlt := hW'.1.lt
    have hpos := encN_pos m
    have hroom : bs'.length + 1 ≤ Room := by omega
    have Hne := Lib.hid (Wr_ne hW')
    have Hbs := Lib.hid hbs
    have Hfr := Lib.hid hfr
    have Hm := Lib.hid hmod
    have Hr := Lib.hid hroom
    clear hbs hfr hmod hlen hl hen hroom hpos
    by_cases h128 : (128 : Int) ≤ m
    · have hor := or128 m
      go_wp2_with (at_builtin; refine wpList_appB rfl (.tmp 11) (.tmp 15) rfl rfl (hW'.2.alloc _) (new := [(m : Int) % 128 + 128]) rfl (RdB_one _ (by omega) (by omega) _) Hr.out ?_)
      intro ao cap w1 happ
      obtain ⟨hc1, hf1, hWT⟩ := Wr_step hW' _ ((Mod.refl _ _).alloc _) [(m : Int) % 128 + 128] happ Hne.out
      have HWT := Lib.hid hWT
      clear hWT happ hor
      go_wp2
      go_roundw
      case rel => exact ⟨m / 128, _, by go_num, by omega, by have := Hbs.out; rw [encN_ge (by omega)] at this; simpa using this, WrTo.trans Hm.out Hfr.out HWT.out⟩
      case measure => simp [intOf]; omega
    · go_wp2_with (at_builtin; refine wpList_appB rfl (.tmp 25) (.tmp 28) rfl rfl (hW'.2.alloc _) (new := [(m : Int)]) rfl (RdB_one _ (by omega) (by omega) _) Hr.out ?_)
      intro ao cap w1 happ
      obtain ⟨hc1, hf1, hWT⟩ := Wr_step hW' _ ((Mod.refl _ _).alloc _) [(m : Int)] happ Hne.out
      have HWT := Lib.hid hWT
      clear hWT happ
      go_wp2
      go_ret
      refine ⟨rfl, ?_⟩
      have hb := Hbs.out
      rw [encN_lt (by omega)] at hb
      rw [← hb]
      exact WrTo.trans Hm.out Hfr.out HWT.out

/-- a number from 0 on -/
def encI (n : Int) : List Int := encN (max 0 n).toNat

theorem WInt_any (b : Nat) (n : Int) (v : Value) (bs : List Int) (w : World) (hW : Wr w b v bs) (hn : -9223372036854775808 ≤ n ∧ n ≤ 9223372036854775807) (hl : bs.length + 10 ≤ Room) :
    Calls Try.prog 58 #[.pointer (some ⟨b, 0, none⟩), .int .i64 n] w fun e w' => e = .returned (.pointer (some ⟨b, 0, none⟩)) ∧ WrTo w b v (bs ++ encI n) w' := by
  have hU : (max 0 n).toNat < U64 := by unfold U64; omega
  have key := Num_any b (max 0 n).toNat v bs w hW hU hl
  have Hl := Lib.hid hl
  clear hU hl key
  by_cases h0 : 0 < n
  · obtain ⟨k, rfl⟩ := Int.eq_ofNat_of_zero_le (Int.le_of_lt h0)
    have ek : (max 0 (k : Int)).toNat = k := by omega
    unfold encI
    rw [ek]
    clear ek
    go_enter Try.func58, Try.ntmps58
    go_wp2_with (go_at_call 82; go_must (refine (Num_any b k v bs _ hW (by unfold U64; omega) Hl.out).mono ?_); rintro e w' ⟨rfl, hWT⟩; have HW := Lib.hid hWT; clear hWT)
    go_ret
    exact ⟨rfl, HW.out⟩
  · have ek : (max 0 n).toNat = 0 := by omega
    unfold encI
    rw [ek]
    clear ek
    go_enter Try.func58, Try.ntmps58
    go_wp2_with (go_at_call 82; go_must (refine (Num_any b 0 v bs _ hW (by unfold U64; omega) Hl.out).mono ?_); rintro e w' ⟨rfl, hWT⟩; have HW := Lib.hid hWT; clear hWT)
    go_ret
    exact ⟨rfl, HW.out⟩

theorem encI_len (n : Int) (hn : n ≤ 9223372036854775807) : 1 ≤ (encI n).length ∧ (encI n).length ≤ 10 := encN_len10 (by unfold U64; omega)
theorem encI_nat (n : Nat) : encI n = encN n := by unfold encI; congr 1

theorem NewWriter_any (w : World) :
    Calls Try.prog 57 #[] w fun e w' => e = .returned (.pointer (some ⟨w.heap.size, 0, none⟩)) ∧ Wr w' w.heap.size (.slice none 0 0) [] ∧ Mod (fun _ => False) w w' := by
  go_enter Try.func57, Try.ntmps57
  go_wp2
  go_ret
  exact ⟨rfl, ⟨Cs.new _ _ _, OwnB.nil _⟩, (Mod.refl _ _).alloc _⟩

/-- the bytes written, in new memory -/
theorem WBytes_any (b : Nat) (v : Value) (bs : List Int) (w : World) (hW : Wr w b v bs) (hl : bs.length ≤ Room) :
    Calls Try.prog 60 #[.pointer (some ⟨b, 0, none⟩)] w fun e w' => ∃ ao cap, e = .returned (.slice ao bs.length cap) ∧ OwnB w' (.slice ao bs.length cap) bs ∧ Fresh w (.slice ao bs.length cap) ∧ Mod (fun _ => False) w w' := by
  have hcell : w.cell? ⟨b, 0, none⟩ = some v := (hW.1.cell 0).trans rfl
  have Hl := Lib.hid (show ([] : List Int).length + bs.length ≤ Room by simpa using hl)
  clear hl
  go_enter Try.func60, Try.ntmps60
  go_wp2_with (at_builtin; refine wpList_appB rfl (.const (.slice none 0 0)) (.tmp 6) rfl rfl (OwnB.nil _) (new := bs) rfl hW.2.rd Hl.out ?_)
  intro ao cap w1 happ
  have HA := Lib.hid happ
  clear happ
  go_wp2
  go_ret
  obtain ⟨h1, h2, h3⟩ := HA.out
  simp only [List.length_nil, Nat.zero_add] at *
  refine ⟨ao, cap, rfl, h1, ?_, h2.mono (fun k _ hk => by simp [Value.ownBlock] at hk)⟩
  intro g hg
  rcases h3 with h3 | ⟨k, h3, hk⟩
  · rw [h3] at hg; cases hg
  · rw [h3] at hg; simp at hg; omega

theorem WRow_any (b : Nat) (v : Value) (bs : List Int) (ao : Option Addr) (cap : Nat) (cs : List Int) (w : World) (hW : Wr w b v bs) (hr : RdB w (.slice ao cs.length cap) cs)
    (hs : Apart (.slice ao cs.length cap) cs.length (fun k => k = b ∨ some k = v.ownBlock)) (hl : bs.length + cs.length + 10 ≤ Room) :
    Calls Try.prog 59 #[.pointer (some ⟨b, 0, none⟩), .slice ao cs.length cap] w fun e w' => e = .returned (.pointer (some ⟨b, 0, none⟩)) ∧ WrTo w b v (bs ++ (encN cs.length ++ cs)) w' := by
  have hR : cs.length < 9223372036854775807 := by unfold Room at hl; omega
  have HR := Lib.hid hR
  have h10 := encN_len10 (n := cs.length) (by unfold U64; omega)
  have Hl := Lib.hid (show (bs ++ encN cs.length).length + cs.length ≤ Room by simp; omega)
  have Hl2 := Lib.hid (show bs.length + 10 ≤ Room by omega)
  have Hs := Lib.hid hs
  clear hs hl hR h10
  go_enter Try.func59, Try.ntmps59
  go_wp2_with (first
    | (go_at_call 58; go_must (refine (WInt_any b cs.length v bs _ hW (by have := HR.out; omega) Hl2.out).mono ?_); rintro e w1 ⟨rfl, v1, hW1, hm1, hf1⟩; have hcell : w1.cell? ⟨b, 0, none⟩ = some v1 := (hW1.1.cell 0).trans rfl; rw [encI_nat] at hW1; have hr1 : RdB w1 (.slice ao cs.length cap) cs := hr.mod hm1 Hs.out; have HM1 := Lib.hid hm1; have HF1 := Lib.hid hf1; clear hm1 hf1)
    | (at_builtin; go_must (refine wpList_appB rfl (.tmp 13) (.tmp 14) rfl rfl hW1.2 (new := cs) rfl hr1 Hl.out ?_)))
  intro ao1 cap1 w2 happ
  rw [← List.append_assoc] at happ
  obtain ⟨hc1, hf1, hWT⟩ := Wr_step hW1 w1 (Mod.refl _ _) cs happ (Wr_ne hW1)
  have HWT := Lib.hid hWT
  clear hWT happ hr1 hr hW1 hW
  go_wp2
  go_ret
  refine ⟨rfl, ?_⟩
  rw [← List.append_assoc]
  exact WrTo.trans HM1.out HF1.out HWT.out
end Go.Proofs.Ytfgepphankfbfaa

/- code.Writer.Hash: 32 bytes behind what is written. -/
set_option maxRecDepth 100000
namespace Go.Proofs.Ytfgepphankfbfaa
open Go Go.RowKit Go.Gv

end Go.Proofs.Ytfgepphankfbfaa

/- Package gavelkeep: bytes that are lent, that are intact, that are spoilt. -/
set_option maxRecDepth 100000
namespace Go.Proofs.Ytfgepphankfbfaa
open Go Go.RowKit Go.Gv

def lendc (bs : List Int) (k : Nat) : List Int := bs ++ (List.replicate k 85 ++ List.replicate (3 - k) 0)
/-- bytes that are lent: three more lie behind them -/
def Lent (w : World) (v : Value) (bs : List Int) : Prop := ∃ g, v = .slice (some ⟨g, 0, none⟩) bs.length (bs.length + 3) ∧ Cs w g ((lendc bs 3).map bv).toArray 5

end Go.Proofs.Ytfgepphankfbfaa

/- gavellaw01: the document's own example. -/
set_option maxRecDepth 100000
namespace Go.Proofs.Ytfgepphankfbfaa
open Go Go.RowKit Go.Gv

end Go.Proofs.Ytfgepphankfbfaa

/- The plain law of numbers and rows as bytes: what is written is read. -/
set_option maxRecDepth 100000
namespace Go.Proofs.Ytfgepphankfbfaa
open Go Go.RowKit Go.Gv

theorem pow128 (i : Nat) : 2 ^ (7 * (i + 1)) = 128 * 2 ^ (7 * i) := by rw [Nat.mul_add, Nat.pow_add, Nat.mul_comm]

theorem dec_enc (rest : List Int) : ∀ (m i acc : Nat), (i = 0 ∨ 1 ≤ m) → m * 2 ^ (7 * i) < U64 → i ≤ 9 → decGo i acc (encN m ++ rest) = some (acc + m * 2 ^ (7 * i), rest) := by
  intro m
  induction m using Nat.strongRecOn with
  | _ m ih =>
    intro i acc h1 h2 h3
    by_cases hm : m < 128
    · rw [encN_lt hm]
      simp only [List.cons_append, List.nil_append, decGo]
      have n1 : ¬ (i = 9 ∧ (1 : Int) < m) := by
        rintro ⟨rfl, h⟩
        unfold U64 at h2
        simp only [Nat.reduceMul, Nat.reducePow] at h2
        omega
      rw [if_neg n1, if_pos (by omega), if_neg (by omega)]
      simp
    · rw [encN_ge (by omega)]
      simp only [List.cons_append, decGo]
      have hp := pow128 i
      have hle : 128 * 2 ^ (7 * i) ≤ m * 2 ^ (7 * i) := Nat.mul_le_mul_right _ (by omega)
      have hi : i ≤ 8 := by
        rcases Nat.lt_or_ge i 9 with h | h
        · omega
        · obtain rfl : i = 9 := by omega
          unfold U64 at h2
          simp only [Nat.reduceMul, Nat.reducePow] at h2 hle
          omega
      have hdm : (m / 128) * 2 ^ (7 * (i + 1)) + (m % 128) * 2 ^ (7 * i) = m * 2 ^ (7 * i) := by
        rw [hp, ← Nat.mul_assoc, ← Nat.add_mul]
        congr 1
        omega
      rw [if_neg (by omega), if_neg (by omega)]
      have e : ((m : Int) % 128 + 128).toNat - 128 = m % 128 := by omega
      rw [e, ih (m / 128) (by omega) (i + 1) _ (.inr (by omega)) (by omega) (by omega)]
      congr 2
      omega

theorem rNum_enc {m : Nat} (hm : m < U64) (rest : List Int) : rNum (some (encN m ++ rest)) = (m, some rest) := by
  have := dec_enc rest m 0 0 (.inl rfl) (by simpa using hm) (by omega)
  simp [rNum, this]
theorem rTake_app {n : Nat} {a : List Int} (h : a.length = n) (rest : List Int) : rTake n (some (a ++ rest)) = (a, some rest) := by
  subst h
  simp [rTake]
@[simp] theorem rNum_none' : rNum none = (0, none) := rfl
@[simp] theorem rInt_none (most : Int) : rInt most none = (0, none) := by simp [rInt]
@[simp] theorem rTake_none (n : Nat) : rTake n none = ([], none) := rfl
@[simp] theorem rRow_none (most : Int) : rRow most none = ([], none) := by simp [rRow]
@[simp] theorem rHash_none : rHash none = (List.replicate 32 0, none) := rfl
end Go.Proofs.Ytfgepphankfbfaa

/- The contracts once more, each object with the blocks in which it lives (R): so that what one call does to one object leaves the others. -/
set_option maxRecDepth 100000
set_option linter.unusedVariables false
namespace Go.Proofs.Ytfgepphankfbfaa
open Go Go.RowKit Go.Gv

/-- a list of bytes (at most N) that is only read; its block, where it has one that matters, is in R -/
def RdR (R : Nat → Prop) (N : Nat) (w : World) (v : Value) (bs : List Int) : Prop := RdB w v bs ∧ (0 < bs.length → ∀ g, v.ownBlock = some g → R g) ∧ bs.length ≤ N
/-- a list of bytes that may be appended to, spoilt -/
def OwR (R : Nat → Prop) (N : Nat) (w : World) (v : Value) (bs : List Int) : Prop := OwnB w v bs ∧ (∀ g, v.ownBlock = some g → R g) ∧ bs.length ≤ N
def WrR (R : Nat → Prop) (N : Nat) (w : World) (b : Nat) (bs : List Int) : Prop := ∃ v, Wr w b v bs ∧ R b ∧ (∀ g, v.ownBlock = some g → R g) ∧ bs.length ≤ N
def RrR (T : TypeId) (R : Nat → Prop) (w : World) (r : Nat) (s : RSt) : Prop := ∃ v, Rr T w r v s ∧ R r ∧ (0 < (s.getD []).length → ∀ g, v.ownBlock = some g → R g)

section
variable {R R' S : Nat → Prop} {N M : Nat} {w w' : World} {v : Value} {bs : List Int} {b r : Nat} {s : RSt} {T : TypeId}
theorem RdR.mod (h : RdR R N w v bs) (hm : Mod S w w') (hs : ∀ k, R k → S k → False) : RdR R N w' v bs := ⟨h.1.mod hm (fun h0 g hg hS => hs g (h.2.1 h0 g hg) hS), h.2⟩
theorem RdR.widen (h : RdR R N w v bs) (hs : ∀ k, R k → R' k) (hM : N ≤ M) : RdR R' M w v bs := ⟨h.1, fun h0 g hg => hs g (h.2.1 h0 g hg), Nat.le_trans h.2.2 hM⟩
theorem OwR.mod (h : OwR R N w v bs) (hm : Mod S w w') (hs : ∀ k, R k → S k → False) : OwR R N w' v bs := ⟨OwnB.mod h.1 hm (fun g hg hS => hs g (h.2.1 g hg) hS), h.2⟩
theorem OwR.widen (h : OwR R N w v bs) (hs : ∀ k, R k → R' k) (hM : N ≤ M) : OwR R' M w v bs := ⟨h.1, fun g hg => hs g (h.2.1 g hg), Nat.le_trans h.2.2 hM⟩
theorem OwR.rd (h : OwR R N w v bs) : RdR R N w v bs := ⟨h.1.rd, fun _ => h.2.1, h.2.2⟩
theorem WrR.mod (h : WrR R N w b bs) (hm : Mod S w w') (hs : ∀ k, R k → S k → False) : WrR R N w' b bs := by
  obtain ⟨v, h1, h2, h3, h4⟩ := h
  exact ⟨v, h1.mod hm (hs b h2) (fun g hg => hs g (h3 g hg)), h2, h3, h4⟩
theorem WrR.widen (h : WrR R N w b bs) (hs : ∀ k, R k → R' k) (hM : N ≤ M) : WrR R' M w b bs := by
  obtain ⟨v, h1, h2, h3, h4⟩ := h
  exact ⟨v, h1, hs b h2, fun g hg => hs g (h3 g hg), Nat.le_trans h4 hM⟩
theorem RrR.mod (h : RrR T R w r s) (hm : Mod S w w') (hs : ∀ k, R k → S k → False) : RrR T R w' r s := by
  obtain ⟨v, h1, h2, h3⟩ := h
  exact ⟨v, h1.mod hm (hs r h2) (fun h0 g hg => hs g (h3 h0 g hg)), h2, h3⟩
theorem RrR.widen (h : RrR T R w r s) (hs : ∀ k, R k → R' k) : RrR T R' w r s := by
  obtain ⟨v, h1, h2, h3⟩ := h
  exact ⟨v, h1, hs r h2, fun h0 g hg => hs g (h3 h0 g hg)⟩
theorem RdR.len {ao : Option Addr} {n cap : Nat} (h : RdR R N w (.slice ao n cap) bs) : n = bs.length := h.1.len.1
theorem RdR.shape (h : RdR R N w v bs) : ∃ ao cap, v = .slice ao bs.length cap := by obtain ⟨ao, cap, e, _⟩ := h.1.shape; exact ⟨ao, cap, e⟩
theorem OwR.shape (h : OwR R N w v bs) : ∃ ao cap, v = .slice ao bs.length cap := h.rd.shape
end

/-- what is new in w' -/
abbrev New (w w' : World) (k : Nat) : Prop := w.heap.size ≤ k ∧ k < w'.heap.size

theorem OwR_of {w w' : World} {v : Value} {bs : List Int} (N : Nat) (h : OwnB w' v bs) (hf : Fresh w v) (hN : bs.length ≤ N) : OwR (New w w') N w' v bs := ⟨h, fun g hg => ⟨hf g hg, Own.lt h hg⟩, hN⟩

theorem Cut_R {R : Nat → Prop} {N : Nat} {v : Value} {bs : List Int} (n : Nat) {w : World} (hr : RdR R N w v bs) (hn : n ≤ 1000000) :
    Calls Try.prog 15 #[v, .int .i64 n] w fun e w' => ∃ v', e = .returned v' ∧ OwR (New w w') n w' v' (bs.take n) ∧ Mod (fun _ => False) w w' := by
  obtain ⟨ao, cap, rfl⟩ := hr.shape
  exact (Cut_any ao _ cap bs n w hr.1 hn).mono fun e w' ⟨ao', cap', he, ho, hf, hm⟩ => ⟨_, he, OwR_of n ho hf (by simp; omega), hm⟩
theorem NewWriter_R (w : World) :
    Calls Try.prog 57 #[] w fun e w' => ∃ b, e = .returned (.pointer (some ⟨b, 0, none⟩)) ∧ WrR (New w w') 0 w' b [] ∧ Mod (fun _ => False) w w' :=
  (NewWriter_any w).mono fun _ _ ⟨he, hW, hm⟩ => ⟨_, he, ⟨_, hW, ⟨Nat.le_refl _, hW.1.lt⟩, (fun g hg => by cases hg), Nat.le_refl _⟩, hm⟩
theorem WrTo_R {R : Nat → Prop} {w w' : World} {b : Nat} {v : Value} {bs : List Int} (N : Nat) (hb : R b) (hv : ∀ g, v.ownBlock = some g → R g) (h : WrTo w b v bs w') (hN : bs.length ≤ N) :
    WrR (fun k => R k ∨ New w w' k) N w' b bs ∧ Mod R w w' := by
  obtain ⟨v', h1, h2, h3⟩ := h
  refine ⟨⟨v', h1, .inl hb, fun g hg => ?_, hN⟩, h2.mono (fun k _ hk => ?_)⟩
  · rcases h3 with h3 | ⟨k, h3, hk⟩
    · exact .inl (hv g (h3 ▸ hg))
    · rw [h3] at hg
      obtain rfl : k = g := by simpa using hg
      exact .inr ⟨hk, Own.lt h1.2 h3⟩
  · rcases hk with rfl | hk
    · exact hb
    · exact hv k hk.symm
theorem WInt_R {R : Nat → Prop} {N b : Nat} {n : Int} {bs : List Int} {w : World} (hW : WrR R N w b bs) (hn : -9223372036854775808 ≤ n ∧ n ≤ 9223372036854775807) (hl : N ≤ 1000000) :
    Calls Try.prog 58 #[.pointer (some ⟨b, 0, none⟩), .int .i64 n] w fun e w' => e = .returned (.pointer (some ⟨b, 0, none⟩)) ∧ WrR (fun k => R k ∨ New w w' k) (N + 10) w' b (bs ++ encI n) ∧ Mod R w w' := by
  obtain ⟨v, h1, h2, h3, h4⟩ := hW
  exact (WInt_any b n v bs w h1 hn (by unfold Room; omega)).mono fun _ _ ⟨he, h⟩ => ⟨he, WrTo_R _ h2 h3 h (by have := encI_len n hn.2; simp; omega)⟩
theorem WRow_R {R R' : Nat → Prop} {N M b : Nat} {bs : List Int} {v2 : Value} {cs : List Int} {w : World} (hW : WrR R N w b bs) (hr : RdR R' M w v2 cs) (hs : ∀ k, R' k → R k → False) (hl : N + M ≤ 1000000) :
    Calls Try.prog 59 #[.pointer (some ⟨b, 0, none⟩), v2] w fun e w' => e = .returned (.pointer (some ⟨b, 0, none⟩)) ∧ WrR (fun k => R k ∨ New w w' k) (N + M + 10) w' b (bs ++ (encN cs.length ++ cs)) ∧ Mod R w w' := by
  obtain ⟨v, h1, h2, h3, h4⟩ := hW
  obtain ⟨ao, cap, rfl⟩ := hr.shape
  have h5 := hr.2.2
  refine (WRow_any b v bs ao cap cs w h1 hr.1 ?_ (by unfold Room; omega)).mono fun _ _ ⟨he, h⟩ => ⟨he, WrTo_R _ h2 h3 h (by have := encN_len10 (n := cs.length) (by unfold U64; omega); simp; omega)⟩
  intro h0 g hg hk
  rcases hk with rfl | hk
  · exact hs _ (hr.2.1 h0 _ hg) h2
  · exact hs _ (hr.2.1 h0 _ hg) (h3 g hk.symm)
theorem WBytes_R {R : Nat → Prop} {N b : Nat} {bs : List Int} {w : World} (hW : WrR R N w b bs) (hl : N ≤ 1000000) :
    Calls Try.prog 60 #[.pointer (some ⟨b, 0, none⟩)] w fun e w' => ∃ v', e = .returned v' ∧ OwR (New w w') N w' v' bs ∧ Mod (fun _ => False) w w' := by
  obtain ⟨v, h1, h2, h3, h4⟩ := hW
  exact (WBytes_any b v bs w h1 (by unfold Room; omega)).mono fun e w' ⟨ao', cap', he, ho, hf, hm⟩ => ⟨_, he, OwR_of N ho hf h4, hm⟩
theorem hv_guard2 (op : BinOp) (x y : Operand) (a b : List Int) (w : World) : (eqGuard op 26 x y (hv a) (hv b)).run Try.prog w = .ok () w :=
  run_eqGuard_agg (P := Try.prog) w op 26 x y _ _ (by kernel_rfl)
theorem hv_eql {a b : List Int} (ha : a.length = 32) (hb : b.length = 32) (w : World) : (binOp .eql 26 (hv a) (hv b)).run Try.prog w = .ok (.bool (decide (a = b))) w :=
  run_eql_ints w 26 5 32 Try.underlying26 Try.underlying5 (by kernel_rfl) a b ha hb
/-- append of bytes, with the blocks -/
theorem wpList_appR {w : World} {ops : Array Oper} {rest : List Oper} {o : Oper} {a : Act} {Q : Exit → Act → World → Prop} (hgd : o.guard = none) (s x : Operand)
    (ho : o.op = .call { callee := .builtin .append, args := #[s, x], argTypes := #[22, 22] })
    {R R' : Nat → Prop} {N M : Nat} {v : Value} {bs : List Int} (hs : a.eval s = v) (hown : OwR R N w v bs) {xv : Value} {new : List Int} (hx : a.eval x = xv) (hrd : RdR R' M w xv new)
    (hroom : N + M ≤ 1000000)
    (h : ∀ ao cap w', OwR (fun k => R k ∨ New w w' k) (N + M) w' (.slice ao (bs.length + new.length) cap) (bs ++ new) → Mod R w w' → wpList Try.prog ops Q rest (a.put o.dst (.slice ao (bs.length + new.length) cap)) w') : wpList Try.prog ops Q (o :: rest) a w :=
  wpList_appB hgd s x ho hs hown.1 hx hrd.1 (by have := hown.2.2; have := hrd.2.2; unfold Room; omega) fun ao cap w' ⟨h1, h2, h3⟩ => h ao cap w' ⟨h1, (fun g hg => by
    rcases h3 with h3 | ⟨k, h3, hk⟩
    · exact .inl (hown.2.1 g (h3 ▸ hg))
    · rw [h3] at hg
      obtain rfl : k = g := by simpa using hg
      exact .inr ⟨hk, Own.lt h1 h3⟩), by have := hown.2.2; have := hrd.2.2; simp; omega⟩ (h2.mono (fun k _ hk => hown.2.1 k hk.symm))
end Go.Proofs.Ytfgepphankfbfaa

/- The rounds' numbers; an element of an array value; SHA-256 in plain words. -/
set_option maxRecDepth 100000
set_option linter.unusedVariables false
namespace Go.Proofs.Ytfgepphankfbfaa
open Go Go.RowKit Go.Gv

def K256 : List Int := [1116352408, 1899447441, 3049323471, 3921009573, 961987163, 1508970993, 2453635748, 2870763221, 3624381080, 310598401, 607225278, 1426881987, 1925078388, 2162078206, 2614888103, 3248222580, 3835390401, 4022224774, 264347078, 604807628, 770255983, 1249150122, 1555081692, 1996064986, 2554220882, 2821834349, 2952996808, 3210313671, 3336571891, 3584528711, 113926993, 338241895, 666307205, 773529912, 1294757372, 1396182291, 1695183700, 1986661051, 2177026350, 2456956037, 2730485921, 2820302411, 3259730800, 3345764771, 3516065817, 3600352804, 4094571909, 275423344, 430227734, 506948616, 659060556, 883997877, 958139571, 1322822218, 1537002063, 1747873779, 1955562222, 2024104815, 2227730452, 2361852424, 2428436474, 2756734187, 3204031479, 3329325298]
def H256 : List Int := [1779033703, 3144134277, 1013904242, 2773480762, 1359893119, 2600822924, 528734635, 1541459225]
theorem K256_len : K256.length = 64 := by decide
theorem K256_arr : (K256.map wv).toArray = #[wv 1116352408, wv 1899447441, wv 3049323471, wv 3921009573, wv 961987163, wv 1508970993, wv 2453635748, wv 2870763221, wv 3624381080, wv 310598401, wv 607225278, wv 1426881987, wv 1925078388, wv 2162078206, wv 2614888103, wv 3248222580, wv 3835390401, wv 4022224774, wv 264347078, wv 604807628, wv 770255983, wv 1249150122, wv 1555081692, wv 1996064986, wv 2554220882, wv 2821834349, wv 2952996808, wv 3210313671, wv 3336571891, wv 3584528711, wv 113926993, wv 338241895, wv 666307205, wv 773529912, wv 1294757372, wv 1396182291, wv 1695183700, wv 1986661051, wv 2177026350, wv 2456956037, wv 2730485921, wv 2820302411, wv 3259730800, wv 3345764771, wv 3516065817, wv 3600352804, wv 4094571909, wv 275423344, wv 430227734, wv 506948616, wv 659060556, wv 883997877, wv 958139571, wv 1322822218, wv 1537002063, wv 1747873779, wv 1955562222, wv 2024104815, wv 2227730452, wv 2361852424, wv 2428436474, wv 2756734187, wv 3204031479, wv 3329325298] := rfl
theorem zero64_arr : ((List.replicate 64 0).map wv).toArray = Array.replicate 64 (wv 0) := by rw [List.map_replicate]; rfl

set_option maxHeartbeats 4000000 in
theorem rounds_any (w : World) : Calls Try.prog 43 #[] w fun e w' => e = .returned (.agg (K256.map wv).toArray) ∧ Mod (fun _ => False) w w' := by
  obtain ⟨k, hk⟩ : ∃ k, k = K256 := ⟨_, rfl⟩
  have hl : k.length = 64 := by rw [hk]; exact K256_len
  have ha : (k.map wv).toArray = #[wv 1116352408, wv 1899447441, wv 3049323471, wv 3921009573, wv 961987163, wv 1508970993, wv 2453635748, wv 2870763221, wv 3624381080, wv 310598401, wv 607225278, wv 1426881987, wv 1925078388, wv 2162078206, wv 2614888103, wv 3248222580, wv 3835390401, wv 4022224774, wv 264347078, wv 604807628, wv 770255983, wv 1249150122, wv 1555081692, wv 1996064986, wv 2554220882, wv 2821834349, wv 2952996808, wv 3210313671, wv 3336571891, wv 3584528711, wv 113926993, wv 338241895, wv 666307205, wv 773529912, wv 1294757372, wv 1396182291, wv 1695183700, wv 1986661051, wv 2177026350, wv 2456956037, wv 2730485921, wv 2820302411, wv 3259730800, wv 3345764771, wv 3516065817, wv 3600352804, wv 4094571909, wv 275423344, wv 430227734, wv 506948616, wv 659060556, wv 883997877, wv 958139571, wv 1322822218, wv 1537002063, wv 1747873779, wv 1955562222, wv 2024104815, wv 2227730452, wv 2361852424, wv 2428436474, wv 2756734187, wv 3204031479, wv 3329325298] := by rw [hk]; exact K256_arr
  obtain ⟨z, hz⟩ : ∃ z, z = List.replicate 64 (0 : Int) := ⟨_, rfl⟩
  have hzl : z.length = 64 := by rw [hz]; simp
  rw [← hk]
  have HS := Lib.hid (show (Try.prog.info? 108).map (·.size) = some (k.map wv).length by rw [List.length_map, hl]; exact size_a64)
  have HF := Lib.hid (show 0 + (k.map wv).length ≤ (z.map wv).toArray.size by simp [hl, hzl])
  have HLY := Lib.hid (lay_whole (z.map wv).toArray (k.map wv) (by simp [hl, hzl]))
  have HK := Lib.hid ha
  have HC := Lib.hid (show Cs (w.alloc (.cells (Array.replicate 64 (wv 0)) 108)) w.heap.size (z.map wv).toArray 108 by rw [hz, zero64_arr]; exact Cs.new _ _ _)
  clear hk hl ha hz hzl
  go_enter Try.func43, Try.ntmps43
  go_wp2_with ((with_reducible show wpList _ _ _ (Oper.mk none (Op.store 108 (.tmp 0) (.tmp 1)) _ _ _ _ :: _) _ _); go_must (refine wpList_storeA rfl 108 (.tmp 0) (.tmp 1) rfl HC.out (off := 0) (vs := k.map wv) HS.out (wv_one _) HF.out rfl HK.out.symm ?_))
  intro w5 hc5 hm5
  rw [HLY.out] at hc5
  go_wp2
  refine bodyPost_ret (results_cellA rfl _ _ w.heap.size (k.map wv) rfl (fun j u hu => by rw [hc5.cell]; simpa using hu) Try.underlying108 rfl HS.out) rfl ⟨rfl, ((Mod.refl (fun _ => False) w).alloc _).trans (hm5.mono (S' := fun k => k = w.heap.size) (fun k _ hk => hk)) (by intro k h1 h2; omega)⟩

theorem wpList_idxA {P : Program} {ops : Array Oper} {rest : List Oper} {o : Oper} {a : Act} {w : World} {Q : Exit → Act → World → Prop} (hgd : o.guard = none) (ty : TypeId) (x y : Operand) (ho : o.op = .index ty x y)
    {e : TypeId} {n : Nat} {k : IntKind} (hu : P.underlying ty = some (.array n e)) (he : P.underlying e = some (.int k)) (hsz : (P.info? e).map (·.size) = some 1) (xs : List Int) (hl : xs.length = n) {j : IntKind} {i : Nat} (hi : i < n)
    (hx : a.eval x = .agg (xs.map (Value.int k)).toArray) (hy : a.eval y = .int j i)
    (h : wpList P ops Q rest (a.put o.dst (.int k (xs.getD i 0))) w) : wpList P ops Q (o :: rest) a w := by
  refine wpList_plain hgd fun K hK => ?_
  have hsz' : (sizeOf e).run P w = .ok 1 w := by
    cases hq : P.info? e with
    | none => simp [hq] at hsz
    | some i => have : i.size = 1 := by simpa [hq] using hsz
                simp [sizeOf, typeInfo, hq, this]
  have hp : (part e (xs.map (Value.int k)).toArray (i * 1)).run P w = .ok (.int k (xs.getD i 0)) w := by
    simp [part, isAgg, run_underlying he, List.getD, List.getElem?_eq_getElem (show i < xs.length by omega)]
  have hr : (Instr.index ty (.agg (xs.map (Value.int k)).toArray) (.int j i)).run P w = .ok (.int k (xs.getD i 0)) w := by
    simp only [Instr.index, asIntOf, Sem.run_bind, Sem.run_pure, Result.andThen_ok, run_underlying hu]
    rw [if_pos (by omega)]
    simp only [Sem.run_bind, hsz', Result.andThen_ok, Int.toNat_natCast, hp]
  unfold Oper.wp execOp
  simp only [ho, hx, hy, Sem.run_bind, Sem.run_pure, Result.andThen_ok, hr]
  exact hK _ _ h
end Go.Proofs.Ytfgepphankfbfaa
