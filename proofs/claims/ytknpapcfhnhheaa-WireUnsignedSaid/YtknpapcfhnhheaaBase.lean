/- Words on memory that all contracts of this work share: which blocks a call may turn (Mod), a slice that reads as cells (Rd), a slice that may be appended to (Own). No program here. -/
import Derived.WalkKit
import Derived.LaidEqlPtr
namespace Go.Gv
open Go Go.RowKit

theorem maxLen_val : maxLen = 9223372036854775807 := by decide

/-- w' is w but for blocks of S, and new blocks. -/
structure Mod (S : Nat → Prop) (w w' : World) : Prop where
  os : w'.os = w.os
  tape : w'.tape = w.tape
  output : w'.output = w.output
  size : w.heap.size ≤ w'.heap.size
  block : ∀ k, k < w.heap.size → ¬ S k → w'.heap[k]? = w.heap[k]?

namespace Mod
variable {S S' : Nat → Prop} {w a b c : World}
theorem refl (S : Nat → Prop) (w : World) : Mod S w w := ⟨rfl, rfl, rfl, Nat.le_refl _, fun _ _ _ => rfl⟩
theorem mono (h : Mod S a b) (hs : ∀ k, k < a.heap.size → S k → S' k) : Mod S' a b :=
  ⟨h.os, h.tape, h.output, h.size, fun k hk hn => h.block k hk (fun hS => hn (hs k hk hS))⟩
theorem trans (h : Mod S a b) (k : Mod S' b c) (hs : ∀ i, i < a.heap.size → S' i → S i) : Mod S a c :=
  ⟨k.os.trans h.os, k.tape.trans h.tape, k.output.trans h.output, Nat.le_trans h.size k.size,
    fun i hi hn => (k.block i (Nat.lt_of_lt_of_le hi h.size) (fun hS => hn (hs i hi hS))).trans (h.block i hi hn)⟩
theorem alloc (h : Mod S a b) (o : Obj) : Mod S a (b.alloc o) :=
  ⟨h.os, h.tape, h.output, Nat.le_trans h.size (by simp), fun i hi hn => (Below.heap_alloc b o i (Nat.lt_of_lt_of_le hi h.size)).trans (h.block i hi hn)⟩
theorem drew (h : Mod S a b) : Mod S a b.drew := ⟨h.os, h.tape, h.output, h.size, h.block⟩
theorem setCell (h : Mod S a b) {p : Addr} (hp : p.block < a.heap.size → S p.block) (u : Value) : Mod S a (b.setCell p u) :=
  ⟨h.os, h.tape, h.output, by simpa using h.size, fun i hi hn => (Below.heap_setCell b p u i (fun e => hn (e ▸ hp (e ▸ hi)))).trans (h.block i hi hn)⟩
theorem obj (h : Mod S a b) {k : Nat} {o : Obj} (hk : a.heap[k]? = some o) (hn : ¬ S k) : b.heap[k]? = some o :=
  (h.block k (Array.getElem?_eq_some_iff.1 hk).1 hn).trans hk
theorem cell (h : Mod S a b) {p : Addr} {u : Value} (hc : a.cell? p = some u) (hn : ¬ S p.block) : b.cell? p = some u :=
  (World.cell?_of_block (h.block p.block (World.block_lt_of_cell? _ _ hc) hn)).trans hc
theorem frozen (h : Mod S a b) {p : Addr} {u : Value} (hc : a.cell? p = some u) (hn : ¬ S p.block) : b.frozen? p = a.frozen? p :=
  World.frozen?_of_block (h.block p.block (World.block_lt_of_cell? _ _ hc) hn)
theorem below (h : Mod S a b) {B : Nat} (hB : B ≤ a.heap.size) (hs : ∀ k, k < B → ¬ S k) : Below B a b :=
  ⟨h.os, h.tape, h.output, h.size, fun k hk => h.block k (by omega) (hs k hk)⟩
theorem of_below {B : Nat} (h : Below B a b) : Mod (fun k => B ≤ k) a b := ⟨h.os, h.tape, h.output, h.size, fun k _ hn => h.block k (by omega)⟩
theorem of_grown {row : Option Nat} (h : a.grownBy b row) : Mod (fun k => some k = row) a b := ⟨h.os, h.tape, h.output, h.size, fun k hk hn => h.block k hk hn⟩
end Mod

/-- a block of cells that may be written -/
def Cs (w : World) (g : Nat) (c : Array Value) (e : TypeId) : Prop := w.heap[g]? = some (.cells c e (0, 0))

theorem Cs.lt {w : World} {g : Nat} {c : Array Value} {e : TypeId} (h : Cs w g c e) : g < w.heap.size := (Array.getElem?_eq_some_iff.1 h).1
theorem Cs.cell {w : World} {g : Nat} {c : Array Value} {e : TypeId} (h : Cs w g c e) (j : Nat) : w.cell? ⟨g, j, none⟩ = c[j]? := by
  unfold Cs at h; simp [World.cell?, h]
theorem Cs.frozen {w : World} {g : Nat} {c : Array Value} {e : TypeId} (h : Cs w g c e) (j : Nat) : w.frozen? ⟨g, j, none⟩ = false := by
  unfold Cs at h; simp [World.frozen?, h]
theorem Cs.mod {S : Nat → Prop} {w w' : World} {g : Nat} {c : Array Value} {e : TypeId} (h : Cs w g c e) (hm : Mod S w w') (hn : ¬ S g) : Cs w' g c e := hm.obj h hn
theorem Cs.drew {w : World} {g : Nat} {c : Array Value} {e : TypeId} (h : Cs w g c e) : Cs w.drew g c e := h
theorem Cs.alloc {w : World} {g : Nat} {c : Array Value} {e : TypeId} (h : Cs w g c e) (o : Obj) : Cs (w.alloc o) g c e := (Below.heap_alloc w o g h.lt).trans h
theorem Cs.new (w : World) (c : Array Value) (e : TypeId) : Cs (w.alloc (.cells c e)) w.heap.size c e := heap_alloc_new w _
theorem Cs.set {w : World} {g : Nat} {c : Array Value} {e : TypeId} (h : Cs w g c e) (j : Nat) (u : Value) : Cs (w.setCell ⟨g, j, none⟩ u) g (c.setIfInBounds j u) e := by
  unfold Cs at h ⊢
  simp [World.setCell, Array.getElem?_modify, h]
theorem Cs.other {w : World} {g : Nat} {c : Array Value} {e : TypeId} (h : Cs w g c e) {p : Addr} (hp : g ≠ p.block) (u : Value) : Cs (w.setCell p u) g c e :=
  (Below.heap_setCell w p u g hp).trans h

/-- the slice v reads, in w, as n elements of s cells each: the cells cs -/
def Rd (s : Nat) (w : World) (v : Value) (n : Nat) (cs : List Value) : Prop :=
  cs.length = n * s ∧ ∃ ao cap, v = .slice ao n cap ∧ n ≤ cap ∧ cap ≤ maxLen ∧ (ao = none → cap = 0) ∧
    ∀ x, ao = some x → ∀ j u, cs[j]? = some u → x.spot = none ∧ w.cell? (x.add j) = some u

/-- where the slice v of n elements holds anything it lies in no block of S -/
def Apart (v : Value) (n : Nat) (S : Nat → Prop) : Prop := 0 < n → ∀ g, v.ownBlock = some g → ¬ S g

theorem Apart.mono {v : Value} {n : Nat} {S S' : Nat → Prop} (h : Apart v n S) (hs : ∀ k, S' k → S k) : Apart v n S' := fun hn g hg hS => h hn g hg (hs g hS)
theorem Apart.none {v : Value} {n : Nat} : Apart v n (fun _ => False) := fun _ _ _ => id
theorem Apart.zero {v : Value} {S : Nat → Prop} : Apart v 0 S := fun h => absurd h (by omega)

theorem add_mk (g o j : Nat) : (⟨g, o, none⟩ : Addr).add j = ⟨g, o + j, none⟩ := by
  unfold Addr.add; split <;> simp_all

theorem Rd.zero (s : Nat) (w : World) (ao : Option Addr) (cap : Nat) (h1 : cap ≤ maxLen) (h2 : ao = none → cap = 0) : Rd s w (.slice ao 0 cap) 0 [] :=
  ⟨by simp, ao, cap, rfl, Nat.zero_le _, h1, h2, fun x hx j u hu => by simp at hu⟩
theorem Rd.nil (s : Nat) (w : World) : Rd s w (.slice none 0 0) 0 [] := Rd.zero s w none 0 (by simp [maxLen_val]) (fun _ => rfl)

/-- its address, where it holds anything -/
theorem Rd.form {s : Nat} {w : World} {v : Value} {n : Nat} {cs : List Value} (hs : 0 < s) (h : Rd s w v n cs) :
    (n = 0 ∧ cs = [] ∧ ∃ ao cap, v = .slice ao 0 cap ∧ cap ≤ maxLen ∧ (ao = none → cap = 0)) ∨
      ∃ g o cap, 0 < n ∧ v = .slice (some ⟨g, o, none⟩) n cap ∧ n ≤ cap ∧ cap ≤ maxLen ∧ cs.length = n * s ∧ ∀ j u, cs[j]? = some u → w.cell? ⟨g, o + j, none⟩ = some u := by
  obtain ⟨hl, ao, cap, rfl, h1, h2, h3, h4⟩ := h
  rcases Nat.eq_zero_or_pos n with rfl | hn
  · exact .inl ⟨rfl, List.eq_nil_of_length_eq_zero (by simpa using hl), ao, cap, rfl, h2, h3⟩
  · cases ao with
    | none => have := h3 rfl; omega
    | some x =>
      obtain ⟨g, o, sp⟩ := x
      have hpos : 0 < cs.length := by rw [hl]; exact Nat.mul_pos hn hs
      obtain ⟨hsp, _⟩ := h4 _ rfl 0 _ (List.getElem?_eq_getElem hpos)
      simp only at hsp
      subst hsp
      exact .inr ⟨g, o, cap, hn, rfl, h1, h2, hl, fun j u hu => by have := (h4 _ rfl j u hu).2; rwa [add_mk] at this⟩

theorem Rd.mk {s : Nat} {w : World} {g o n cap : Nat} {cs : List Value} (h1 : n ≤ cap) (h2 : cap ≤ maxLen) (hl : cs.length = n * s)
    (hc : ∀ j u, cs[j]? = some u → w.cell? ⟨g, o + j, none⟩ = some u) : Rd s w (.slice (some ⟨g, o, none⟩) n cap) n cs := by
  refine ⟨hl, some ⟨g, o, none⟩, cap, rfl, h1, h2, ?_, ?_⟩
  · intro h; cases h
  · intro x hx; cases hx; exact fun j u hu => ⟨rfl, by rw [add_mk]; exact hc j u hu⟩

theorem Rd.keep {s : Nat} {w w' : World} {v : Value} {n : Nat} {cs : List Value} (h : Rd s w v n cs) (hk : 0 < n → ∀ g, v.ownBlock = some g → g < w.heap.size → w'.heap[g]? = w.heap[g]?) : Rd s w' v n cs := by
  obtain ⟨hl, ao, cap, rfl, h1, h2, h3, h4⟩ := h
  refine ⟨hl, ao, cap, rfl, h1, h2, h3, fun x hx j u hu => ⟨(h4 x hx j u hu).1, ?_⟩⟩
  have hc := (h4 x hx j u hu).2
  have hn : 0 < n := by
    rcases Nat.eq_zero_or_pos n with rfl | h
    · have : cs = [] := List.eq_nil_of_length_eq_zero (by simpa using hl)
      subst this; simp at hu
    · exact h
  have hb : (x.add j).block = x.block := by unfold Addr.add; split <;> rfl
  subst hx
  refine (World.cell?_of_block ?_).trans hc
  rw [hb]
  exact hk hn x.block rfl (by have := World.block_lt_of_cell? _ _ hc; rwa [hb] at this)
theorem Rd.mod {S : Nat → Prop} {s : Nat} {w w' : World} {v : Value} {n : Nat} {cs : List Value} (h : Rd s w v n cs) (hm : Mod S w w') (hn : Apart v n S) : Rd s w' v n cs :=
  h.keep fun h0 g hg hlt => hm.block g hlt (hn h0 g hg)
theorem Rd.alloc {s : Nat} {w : World} {v : Value} {n : Nat} {cs : List Value} (h : Rd s w v n cs) (o : Obj) : Rd s (w.alloc o) v n cs :=
  h.keep fun _ g _ hlt => Below.heap_alloc w o g hlt
theorem Rd.drew {s : Nat} {w : World} {v : Value} {n : Nat} {cs : List Value} (h : Rd s w v n cs) : Rd s w.drew v n cs := h.keep fun _ _ _ _ => rfl

theorem Rd.sliced {s : Nat} {w : World} {ao : Option Addr} {n cap : Nat} {cs : List Value} (h : Rd s w (.slice ao n cap) n cs) (lo hi m : Nat) (h1 : lo ≤ hi) (h2 : hi ≤ n) (h3 : hi ≤ m) (h4 : m ≤ cap) :
    Rd s w (.slice (if m = lo then ao else ao.map (·.add (lo * s))) (hi - lo) (m - lo)) (hi - lo) ((cs.drop (lo * s)).take ((hi - lo) * s)) := by
  obtain ⟨hl, ao', cap', e, g1, g2, g3, g4⟩ := h
  simp only [Value.slice.injEq] at e
  obtain ⟨rfl, _, rfl⟩ := e
  have hle : hi * s ≤ n * s := Nat.mul_le_mul_right _ h2
  have hls : lo * s ≤ hi * s := Nat.mul_le_mul_right _ h1
  have hsub : (hi - lo) * s = hi * s - lo * s := Nat.sub_mul _ _ _
  refine ⟨by simp; omega, _, _, rfl, by omega, by omega, ?_, ?_⟩
  · split
    · omega
    · intro hm
      simp at hm
      have := g3 hm
      omega
  · intro x hx j u hu
    split at hx
    · have : j < (hi - lo) * s := by have := (List.getElem?_eq_some_iff.1 hu).1; simp at this; omega
      have : hi = lo := by omega
      subst this
      simp at this
    · simp only [Option.map_eq_some_iff] at hx
      obtain ⟨y, hy, rfl⟩ := hx
      have hu' : cs[lo * s + j]? = some u := by
        rw [List.getElem?_take] at hu
        split at hu
        · rwa [List.getElem?_drop] at hu
        · cases hu
      obtain ⟨hsp, hc⟩ := g4 y hy _ _ hu'
      obtain ⟨yb, yo, ys⟩ := y
      simp only at hsp
      subst hsp
      rw [add_mk] at hc ⊢
      rw [add_mk]
      exact ⟨rfl, by rwa [Nat.add_assoc]⟩

/-- the slice v may be appended to: nil, or at the head of a block of its own; each cell of that block is an E -/
def Own (E : Value → Prop) (e s : Nat) (w : World) (v : Value) (n : Nat) (cs : List Value) : Prop :=
  cs.length = n * s ∧ (∀ u ∈ cs, E u) ∧ ((v = .slice none 0 0 ∧ n = 0) ∨
    ∃ g cap cur, v = .slice (some ⟨g, 0, none⟩) n cap ∧ Cs w g cur e ∧ n ≤ cap ∧ cap ≤ maxLen ∧ cap * s ≤ cur.size ∧ cur.toList.take (n * s) = cs ∧ ∀ u ∈ cur.toList, E u)

section
variable {E : Value → Prop} {e s : Nat} {w w' : World} {v : Value} {n : Nat} {cs : List Value} {S : Nat → Prop}
theorem Own.nil (E : Value → Prop) (e s : Nat) (w : World) : Own E e s w (.slice none 0 0) 0 [] := ⟨by simp, by simp, .inl ⟨rfl, rfl⟩⟩
theorem Own.rd (h : Own E e s w v n cs) : Rd s w v n cs := by
  obtain ⟨hl, _, ⟨rfl, rfl⟩ | ⟨g, cap, cur, rfl, hg, h1, h2, h3, h4, _⟩⟩ := h
  · obtain rfl : cs = [] := List.eq_nil_of_length_eq_zero (by simpa using hl)
    exact Rd.nil _ _
  · refine Rd.mk h1 h2 hl fun j u hu => ?_
    rw [Nat.zero_add, hg.cell]
    have hj : j < n * s := by have := (List.getElem?_eq_some_iff.1 hu).1; omega
    rw [← h4, List.getElem?_take, if_pos hj] at hu
    simpa using hu
theorem Own.lt (h : Own E e s w v n cs) {g : Nat} (hg : v.ownBlock = some g) : g < w.heap.size := by
  obtain ⟨hl, _, ⟨rfl, rfl⟩ | ⟨g', cap, cur, rfl, hc, _⟩⟩ := h
  · cases hg
  · simp [Value.ownBlock] at hg; subst hg; exact hc.lt
theorem Own.mod (h : Own E e s w v n cs) (hm : Mod S w w') (hn : ∀ g, v.ownBlock = some g → ¬ S g) : Own E e s w' v n cs := by
  obtain ⟨hl, hE, ⟨rfl, rfl⟩ | ⟨g, cap, cur, rfl, hc, r⟩⟩ := h
  · exact ⟨hl, hE, .inl ⟨rfl, rfl⟩⟩
  · exact ⟨hl, hE, .inr ⟨g, cap, cur, rfl, hc.mod hm (hn g rfl), r⟩⟩
theorem Own.alloc (h : Own E e s w v n cs) (o : Obj) : Own E e s (w.alloc o) v n cs := h.mod (S := fun _ => False) ((Mod.refl _ _).alloc o) (fun _ _ => id)
theorem Own.drew (h : Own E e s w v n cs) : Own E e s w.drew v n cs := h.mod (S := fun _ => False) ((Mod.refl _ _).drew) (fun _ _ => id)
theorem Own.other (h : Own E e s w v n cs) {p : Addr} (hp : ∀ g, v.ownBlock = some g → g ≠ p.block) (u : Value) : Own E e s (w.setCell p u) v n cs :=
  h.mod (S := fun k => k = p.block) (Mod.setCell (Mod.refl (fun k => k = p.block) w) (fun _ => rfl) u) hp
theorem Own.shape (h : Own E e s w v n cs) : ∃ ao cap, v = .slice ao n cap := by
  obtain ⟨_, _, ⟨rfl, rfl⟩ | ⟨g, cap, cur, rfl, _⟩⟩ := h
  · exact ⟨none, 0, rfl⟩
  · exact ⟨_, _, rfl⟩
end

/-- what an append may come to: the value's head, its room, the world -/
def Appended (E : Value → Prop) (e s : Nat) (w : World) (v : Value) (n : Nat) (cs : List Value) (ao : Option Addr) (cap : Nat) (w' : World) : Prop :=
  Own E e s w' (.slice ao n cap) n cs ∧ Mod (fun k => some k = v.ownBlock) w w' ∧
    ((Value.slice ao n cap).ownBlock = v.ownBlock ∨ ∃ k, (Value.slice ao n cap).ownBlock = some k ∧ w.heap.size ≤ k)

theorem run_append {P : Program} {E : Value → Prop} (w : World) (t ty e : TypeId) (i : TypeInfo) (z : Value) (s bytes : Nat) (ht : P.underlying t = some (.slice e)) (hi : P.info? e = some i) (hz : i.zero = some z)
    (hsize : i.size = s) (hby : i.bytes = bytes) (hzs : z.cells.size = s) (hsz : 0 < s) (hzE : ∀ u ∈ z.cells.toList, E u)
    (v : Value) (n : Nat) (xs : List Value) (hown : Own E e s w v n xs) (x : Value) (m : Nat) (news : List Value) (hx : Rd s w x m news) (hE : ∀ u ∈ news, E u) (h1 : ∀ u ∈ news, u.oneCell' = true)
    (hbytes : (n + m) * bytes ≤ 140737488355328) (h63 : n + m ≤ maxLen) :
    ∃ ao cap w', (Builtin.append_ #[t, t] ty #[v, x]).run P w = .ok (.slice ao (n + m) cap) w' ∧ Appended E e s w v (n + m) (xs ++ news) ao cap w' := by
  subst hsize
  subst hby
  have hsmall : n + m ≤ 9223372036854775807 := by simp only [maxLen] at h63; omega
  rcases hx.form hsz with ⟨rfl, rfl, xao, xc, rfl, _, hx0⟩ | ⟨xg, xo, xc, hmpos, rfl, hmc, _, hl, hnews⟩
  · -- nothing is appended
    obtain ⟨hl0, hE0, ⟨rfl, rfl⟩ | ⟨g, cap, cur, rfl, hg, hnc, hcm, hcs, htake, hcE⟩⟩ := hown
    · obtain rfl : xs = [] := List.eq_nil_of_length_eq_zero (by simpa using hl0)
      refine ⟨none, 0, w, ?_, ⟨by simp, by simp, .inl ⟨rfl, rfl⟩⟩, Mod.refl _ _, .inl rfl⟩
      cases xao <;> simp [Builtin.append_, run_underlying ht, sizeOf, typeInfo, hi, Builtin.lenOf, Builtin.firstCells, loadCells, loadCellsFrom]
    · refine ⟨some ⟨g, 0, none⟩, cap, w, ?_, ⟨by simpa using hl0, by simpa using hE0, .inr ⟨g, cap, cur, rfl, hg, hnc, hcm, hcs, by simpa using htake, hcE⟩⟩, Mod.refl _ _, .inl rfl⟩
      cases xao <;> simp [Builtin.append_, run_underlying ht, sizeOf, typeInfo, hi, Builtin.lenOf, Builtin.firstCells, hnc, storeCells, loadCells, loadCellsFrom]
  · have hnews' : ∀ j u, news[j]? = some u → w.cell? ((⟨xg, xo, none⟩ : Addr).add j) = some u := fun j u hu => by rw [add_mk]; exact hnews j u hu
    have hlen : (xs ++ news).length = (n + m) * i.size := by rw [List.length_append, hown.1, hl, Nat.add_mul]
    have hEall : ∀ u ∈ xs ++ news, E u := fun u hu => (List.mem_append.1 hu).elim (hown.2.1 u) (hE u)
    have grown : ∀ (old : Nat), old < n + m →
        Own E e i.size (w.drew.alloc (.cells (xs.toArray ++ news.toArray ++ Builtin.zeroCells z.cells (grownCap w (n + m) old e - (n + m))) e)) (.slice (some ⟨w.heap.size, 0, none⟩) (n + m) (grownCap w (n + m) old e)) (n + m) (xs ++ news) ∧
        Mod (fun k => some k = v.ownBlock) w (w.drew.alloc (.cells (xs.toArray ++ news.toArray ++ Builtin.zeroCells z.cells (grownCap w (n + m) old e - (n + m))) e)) := by
      intro old ho
      have hge := grownCap_ge w (n + m) old e
      have hcm : grownCap w (n + m) old e ≤ maxLen := grownCap_le_maxLen w (n + m) old e h63
      refine ⟨⟨hlen, hEall, .inr ⟨w.heap.size, _, _, rfl, heap_alloc_new w.drew _, hge, hcm, ?_, ?_, ?_⟩⟩, ((Mod.refl _ _).drew).alloc _⟩
      · simp only [Array.size_append, List.size_toArray, size_zeroCells, hzs, hown.1, hl, ← Nat.add_mul]
        rw [show n + m + (grownCap w (n + m) old e - (n + m)) = grownCap w (n + m) old e by omega]
        exact Nat.le_refl _
      · simp only [Array.toList_append, List.append_assoc]
        rw [← List.append_assoc, ← hlen]
        exact List.take_left
      · intro u hu
        simp only [Array.toList_append] at hu
        rcases List.mem_append.1 hu with h | h
        · exact hEall u h
        · obtain ⟨q, hq, he⟩ := List.getElem_of_mem h
          have : u ∈ z.cells.toList := by
            have h' : u ∈ Builtin.zeroCells z.cells (grownCap w (n + m) old e - (n + m)) := Array.mem_toList_iff.1 h
            simp only [Builtin.zeroCells] at h'
            simp at h'
            obtain ⟨q2, _, h'⟩ := h'
            have hq2 : q2 % z.cells.size < z.cells.size := Nat.mod_lt _ (by omega)
            rw [getElem!_pos z.cells (q2 % z.cells.size) hq2] at h'
            exact h' ▸ Array.mem_toList_iff.2 (Array.getElem_mem hq2)
          exact hzE u this
    obtain ⟨hl0, hE0, ⟨rfl, rfl⟩ | ⟨g, cap, cur, rfl, hg, hnc, hcm, hcs, htake, hcE⟩⟩ := hown
    · have hx0 : xs = [] := List.eq_nil_of_length_eq_zero (by simpa using hl0)
      subst hx0
      by_cases hm : m = 0
      · subst hm
        have hn : news = [] := List.eq_nil_of_length_eq_zero (by simpa using hl)
        subst hn
        refine ⟨none, 0, w, ?_, ⟨by simp, by simp, .inl ⟨rfl, rfl⟩⟩, Mod.refl _ _, .inl rfl⟩
        simp [Builtin.append_, run_underlying ht, sizeOf, typeInfo, hi, Builtin.lenOf, Builtin.firstCells, loadCells, loadCellsFrom]
      · have hr := run_append_nil (P := P) w t ty e i z ht hi hz ⟨xg, xo, none⟩ m xc news hl hnews' (by omega) (by omega) (by have hb := hbytes; simp only [Nat.zero_add] at hb; omega)
        have hgr := grown 0 (by omega)
        simp only [Nat.zero_add, List.nil_append, Array.empty_append] at hgr hr ⊢
        exact ⟨_, _, _, hr, hgr.1, hgr.2, .inr ⟨_, rfl, Nat.le_refl _⟩⟩
    · by_cases hroom : n + m ≤ cap
      · have hfit : n * i.size + news.length ≤ cur.size := by rw [hl, ← Nat.add_mul]; exact Nat.le_trans (Nat.mul_le_mul_right _ hroom) hcs
        have hr := run_append_room (P := P) w t ty e i ht hi g n cap cur hg ⟨xg, xo, none⟩ m xc news hl hnews' h1 hroom hfit
        refine ⟨_, _, _, hr, ⟨hlen, hEall, .inr ⟨g, cap, _, rfl, setRow_heap w g cur _ e _ hg, hroom, hcm, ?_, ?_, ?_⟩⟩, ⟨rfl, rfl, rfl, by simp, fun k _ hk => setRow_other w g k _ (fun e => hk (by simp [Value.ownBlock, e]))⟩, .inl rfl⟩
        · simp only [List.size_toArray, List.length_append, List.length_take, List.length_drop, Array.length_toList]
          omega
        · rw [htake, ← hlen]
          exact List.take_left
        · intro u hu
          simp only [List.mem_append] at hu
          rcases hu with (h | h) | h
          · exact hcE u (List.mem_of_mem_take h)
          · exact hE u h
          · exact hcE u (List.mem_of_mem_drop h)
      · have holds : ∀ j u, xs[j]? = some u → w.cell? ((⟨g, 0, none⟩ : Addr).add j) = some u := by
          intro j u hu
          rw [add_mk, Nat.zero_add, hg.cell]
          have hj : j < n * i.size := by have := (List.getElem?_eq_some_iff.1 hu).1; omega
          rw [← htake, List.getElem?_take, if_pos hj] at hu
          simpa using hu
        have hr := run_append_grow (P := P) w t ty e i z ht hi hz ⟨g, 0, none⟩ n cap xs hl0 holds ⟨xg, xo, none⟩ m xc news hl hnews' (by omega) (by omega) (growslice_fits (by omega) hbytes)
        have hgr := grown cap (by omega)
        exact ⟨_, _, _, hr, hgr.1, hgr.2, .inr ⟨_, rfl, Nat.le_refl _⟩⟩

theorem wpList_append {P : Program} {E : Value → Prop} {w : World} {ops : Array Oper} {rest : List Oper} {o : Oper} {a : Act} {Q : Exit → Act → World → Prop} (hgd : o.guard = none) (s x : Operand) (t : TypeId)
    (ho : o.op = .call { callee := .builtin .append, args := #[s, x], argTypes := #[t, t] })
    (e : TypeId) (i : TypeInfo) (z : Value) (size bytes : Nat) (ht : P.underlying t = some (.slice e)) (hi : P.info? e = some i) (hz : i.zero = some z)
    (hsize : i.size = size) (hby : i.bytes = bytes) (hzs : z.cells.size = size) (hsz : 0 < size) (hzE : ∀ u ∈ z.cells.toList, E u)
    (v : Value) (n : Nat) (xs : List Value) (hs : a.eval s = v) (hown : Own E e size w v n xs)
    (xv : Value) (m : Nat) (news : List Value) (hx : a.eval x = xv) (hrd : Rd size w xv m news) (hE : ∀ u ∈ news, E u) (h1 : ∀ u ∈ news, u.oneCell' = true)
    (hbytes : (n + m) * bytes ≤ 140737488355328) (h63 : n + m ≤ maxLen)
    (h : ∀ ao cap w', Appended E e size w v (n + m) (xs ++ news) ao cap w' → wpList P ops Q rest (a.put o.dst (.slice ao (n + m) cap)) w') : wpList P ops Q (o :: rest) a w := by
  obtain ⟨ao, cap, w', hr, h2⟩ := run_append (P := P) w t o.type e i z size bytes ht hi hz hsize hby hzs hsz hzE v n xs hown xv m news hrd hE h1 hbytes h63
  refine wpList_plain hgd fun K hK => ?_
  unfold Oper.wp execOp
  simp only [ho, resolve, invoke, builtin, Sem.run_bind, Sem.run_pure, Result.andThen_ok, List.map_toArray, List.map_cons, List.map_nil, hs, hx, hr]
  exact hK _ _ (h ao cap w' h2)

theorem run_neq_ptr_same {P : Program} {tp te : TypeId} (a : Addr) (hp : P.underlying tp = some (.pointer te)) (hte : (P.info? te).isSome = true) (w : World) :
    (binOp .neq tp (.pointer (some a)) (.pointer (some a))).run P w = .ok (.bool false) w := by
  obtain ⟨j, hj⟩ := Option.isSome_iff_exists.1 hte
  have h : ∀ d : Nat, (Op.equalIn (d + 1) tp (.pointer (some a)) (.pointer (some a))).run P w = .ok true w := fun d => by
    simp [Op.equalIn, run_underlying hp, sizeOf, typeInfo, hj, run_sameAddr_same]
  simp only [binOp]
  simp [Op.equal, Op.maxDepth, h 9999]
theorem run_eql_ptr_same' {P : Program} {tp te : TypeId} (a : Addr) (hp : P.underlying tp = some (.pointer te)) (hte : (P.info? te).isSome = true) (w : World) :
    (binOp .eql tp (.pointer (some a)) (.pointer (some a))).run P w = .ok (.bool true) w := by
  obtain ⟨j, hj⟩ := Option.isSome_iff_exists.1 hte
  exact run_eql_ptr_same w a hp hj
end Go.Gv
