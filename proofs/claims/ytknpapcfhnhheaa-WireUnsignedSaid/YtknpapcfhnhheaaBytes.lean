/- Slices of bytes: what reads as bytes (RdB), what may be appended to (OwnB); the built-in append over them. -/
import Derived.Test.YtknpapcfhnhheaaRows
import Derived.Test.YtknpapcfhnhheaaBase
import Derived.Lib.Hide
import Derived.Deep.QuietTactic
import Derived.BigQuiet
import Derived.Deep.RegionLaw
set_option maxRecDepth 100000
namespace Go.Proofs.Ytknpapcfhnhheaa
open Go Go.RowKit Go.Gv

theorem info_u8 : (Try.prog.info? 5).map (fun i => (i.zero, i.size, i.bytes)) = some (some (.int .u8 0), 1, 1) := by kernel_rfl

def Room : Nat := 140737488355328
def U64 : Nat := 18446744073709551616
abbrev bv (x : Int) : Value := .int .u8 x
def IsB (u : Value) : Prop := ∃ x : Int, u = .int .u8 x ∧ 0 ≤ x ∧ x < 256
def Bytes (bs : List Int) : Prop := ∀ x ∈ bs, 0 ≤ x ∧ x < 256

theorem Bytes.nil : Bytes [] := by intro x hx; cases hx
theorem Bytes.one {x : Int} (h0 : 0 ≤ x) (h1 : x < 256) : Bytes [x] := by intro y hy; simp at hy; subst hy; exact ⟨h0, h1⟩
theorem Bytes.append {a b : List Int} (ha : Bytes a) (hb : Bytes b) : Bytes (a ++ b) := fun x hx => (List.mem_append.1 hx).elim (ha x) (hb x)
theorem Bytes.take {a : List Int} (ha : Bytes a) (n : Nat) : Bytes (a.take n) := fun x hx => ha x (List.mem_of_mem_take hx)
theorem Bytes.drop {a : List Int} (ha : Bytes a) (n : Nat) : Bytes (a.drop n) := fun x hx => ha x (List.mem_of_mem_drop hx)
theorem Bytes.get {a : List Int} (ha : Bytes a) {n : Nat} (h : n < a.length) : 0 ≤ a[n] ∧ a[n] < 256 := ha _ (List.getElem_mem h)

def OwnB (w : World) (v : Value) (bs : List Int) : Prop := Own IsB 5 1 w v bs.length (bs.map bv)
def RdB (w : World) (v : Value) (bs : List Int) : Prop := Bytes bs ∧ Rd 1 w v bs.length (bs.map bv)

theorem isB_all {bs : List Int} (h : Bytes bs) : ∀ u ∈ bs.map bv, IsB u := by
  intro u hu; obtain ⟨x, hx, rfl⟩ := List.mem_map.1 hu; exact ⟨x, rfl, h x hx⟩
theorem IsB_zero : ∀ u ∈ (Value.int .u8 0).cells.toList, IsB u := by
  intro u hu; simp [Value.cells] at hu; subst hu; exact ⟨0, rfl, by omega, by omega⟩

section
variable {w w' : World} {v : Value} {bs : List Int} {S : Nat → Prop}
theorem OwnB.bytes (h : OwnB w v bs) : Bytes bs := by
  intro x hx
  obtain ⟨y, hy, h1⟩ := h.2.1 (bv x) (List.mem_map_of_mem hx)
  simp at hy; subst hy; exact h1
theorem OwnB.rd (h : OwnB w v bs) : RdB w v bs := ⟨h.bytes, Own.rd h⟩
theorem RdB.zero (w : World) (ao : Option Addr) (cap : Nat) (h1 : cap ≤ maxLen) (h2 : ao = none → cap = 0) : RdB w (.slice ao 0 cap) [] := ⟨Bytes.nil, Rd.zero 1 w ao cap h1 h2⟩
theorem OwnB.nil (w : World) : OwnB w (.slice none 0 0) [] := Own.nil _ _ _ _
theorem RdB.nil (w : World) : RdB w (.slice none 0 0) [] := ⟨Bytes.nil, Rd.nil _ _⟩
theorem OwnB.mod (h : OwnB w v bs) (hm : Mod S w w') (hn : ∀ g, v.ownBlock = some g → ¬ S g) : OwnB w' v bs := Own.mod h hm hn
theorem RdB.mod (h : RdB w v bs) (hm : Mod S w w') (hn : Apart v bs.length S) : RdB w' v bs := ⟨h.1, h.2.mod hm hn⟩
theorem RdB.alloc (h : RdB w v bs) (o : Obj) : RdB (w.alloc o) v bs := ⟨h.1, h.2.alloc o⟩
theorem RdB.drew (h : RdB w v bs) : RdB w.drew v bs := ⟨h.1, h.2.drew⟩
theorem OwnB.alloc (h : OwnB w v bs) (o : Obj) : OwnB (w.alloc o) v bs := Own.alloc h o
theorem OwnB.drew (h : OwnB w v bs) : OwnB w.drew v bs := Own.drew h
theorem RdB.shape (h : RdB w v bs) : ∃ ao cap, v = .slice ao bs.length cap ∧ bs.length ≤ cap ∧ cap ≤ maxLen := by
  obtain ⟨_, _, ao, cap, rfl, h1, h2, _⟩ := h; exact ⟨ao, cap, rfl, h1, h2⟩
theorem RdB.form (h : RdB w v bs) : (bs = [] ∧ ∃ ao cap, v = .slice ao 0 cap ∧ cap ≤ maxLen) ∨ ∃ g o cap, 0 < bs.length ∧ v = .slice (some ⟨g, o, none⟩) bs.length cap ∧ bs.length ≤ cap ∧ cap ≤ maxLen ∧ ∀ (j : Nat) (hj : j < bs.length), w.cell? ⟨g, o + j, none⟩ = some (.int .u8 bs[j]) := by
  rcases h.2.form (by decide) with ⟨h1, h2, ao, cap, h3, h4, _⟩ | ⟨g, o, cap, h0, h1, h2, h3, _, h5⟩
  · exact .inl ⟨List.eq_nil_of_length_eq_zero h1, ao, cap, h3, h4⟩
  · exact .inr ⟨g, o, cap, h0, h1, h2, h3, fun j hj => h5 j _ (by simp [hj])⟩
theorem RdB.block_lt (h : RdB w v bs) (h0 : 0 < bs.length) : ∀ g, v.ownBlock = some g → g < w.heap.size := by
  intro g hg
  rcases h.form with ⟨rfl, _⟩ | ⟨g', o, cap, _, rfl, _, _, hc⟩
  · simp at h0
  · simp [Value.ownBlock] at hg
    subst hg
    exact World.block_lt_of_cell? _ _ (hc 0 h0)
theorem RdB.cut {ao : Option Addr} {n cap : Nat} (hr : RdB w (.slice ao n cap) bs) (lo hi m : Nat) (h1 : lo ≤ hi) (h2 : hi ≤ bs.length) (h3 : hi ≤ m) (h4 : m ≤ cap) :
    RdB w (.slice (if m = lo then ao else ao.map (·.add (lo * 1))) (hi - lo) (m - lo)) ((bs.drop lo).take (hi - lo)) := by
  obtain ⟨hb, hr : Rd 1 w _ _ _⟩ := hr
  have e : n = bs.length := by obtain ⟨_, _, _, e, _⟩ := hr; simp at e; exact e.2.1
  subst e
  have h := Rd.sliced hr lo hi m h1 h2 h3 h4
  refine ⟨(hb.drop _).take _, ?_⟩
  have el : ((bs.drop lo).take (hi - lo)).length = hi - lo := by simp; omega
  rw [el]
  simpa [List.map_take, List.map_drop] using h
theorem RdB.upto {ao : Option Addr} {n cap : Nat} (hr : RdB w (.slice ao n cap) bs) (k : Nat) (hk : k ≤ bs.length) : RdB w (.slice ao k cap) (bs.take k) := by
  obtain ⟨hb, hl, ao', cap', e, h1, h2, h3, h4⟩ := hr
  simp only [Value.slice.injEq] at e
  obtain ⟨rfl, rfl, rfl⟩ := e
  have el : (bs.take k).length = k := by simp; omega
  refine ⟨hb.take k, ?_⟩
  rw [el]
  refine ⟨by simp; omega, ao, cap, rfl, by omega, h2, h3, fun x hx j u hu => h4 x hx j u ?_⟩
  rw [List.map_take, List.getElem?_take] at hu
  split at hu
  · exact hu
  · cases hu
theorem RdB.tail_at {ao : Option Addr} {m cap : Nat} (hr : RdB w (.slice ao m cap) bs) (n : Nat) (hn : n ≤ bs.length) (h : cap = n) : RdB w (.slice ao (bs.length - n) 0) (bs.drop n) := by
  have hl : m = bs.length ∧ m ≤ cap ∧ cap ≤ maxLen := by
    obtain ⟨hb, hl, ao', cap', e, h1, h2, h3, h4⟩ := hr
    simp only [Value.slice.injEq] at e
    obtain ⟨rfl, rfl, rfl⟩ := e
    exact ⟨rfl, h1, h2⟩
  have e1 : bs.length - n = 0 := by omega
  rw [e1, List.drop_of_length_le (by omega)]
  exact ⟨Bytes.nil, Rd.zero 1 w ao 0 (by simp [maxLen_val]) (fun _ => rfl)⟩
theorem RdB.tail_in {ao : Option Addr} {m cap : Nat} (hr : RdB w (.slice ao m cap) bs) (n : Nat) (hn : n ≤ bs.length) (h : ¬ cap = n) : RdB w (.slice (ao.map fun x => x.add n) (bs.length - n) (cap - n)) (bs.drop n) := by
  have hl : m = bs.length ∧ m ≤ cap ∧ cap ≤ maxLen := by
    obtain ⟨hb, hl, ao', cap', e, h1, h2, h3, h4⟩ := hr
    simp only [Value.slice.injEq] at e
    obtain ⟨rfl, rfl, rfl⟩ := e
    exact ⟨rfl, h1, h2⟩
  have := RdB.cut hr n bs.length cap hn (Nat.le_refl _) (by omega) (Nat.le_refl _)
  rw [if_neg h, List.take_of_length_le (by simp)] at this
  simpa using this
theorem RdB.len {ao : Option Addr} {n cap : Nat} (hr : RdB w (.slice ao n cap) bs) : n = bs.length ∧ n ≤ cap ∧ cap ≤ maxLen := by
  obtain ⟨hb, hl, ao', cap', e, h1, h2, h3, h4⟩ := hr
  simp only [Value.slice.injEq] at e
  obtain ⟨rfl, rfl, rfl⟩ := e
  exact ⟨rfl, h1, h2⟩
end

theorem ret_int {k : IntKind} {a b : Int} (h : a = b) : Ending.returned (.int k a) = .returned (.int k b) := by rw [h]
theorem ret_bool {a b : Bool} (h : a = b) : Ending.returned (.bool a) = .returned (.bool b) := by rw [h]

/-- one new cell, as a slice -/
theorem RdB_one (w : World) {x : Int} (h0 : 0 ≤ x) (h1 : x < 256) (e : TypeId) : RdB (w.alloc (.cells #[bv x] e)) (.slice (some ⟨w.heap.size, 0, none⟩) 1 1) [x] :=
  ⟨Bytes.one h0 h1, Rd.mk (Nat.le_refl _) (by rw [maxLen_val]; omega) rfl fun j y hy => by
    rw [Nat.zero_add, (Cs.new w #[bv x] e).cell]; simpa using hy⟩

/-- what an append of bytes may come to -/
def AppB (w : World) (v : Value) (bs : List Int) (v' : Value) (w' : World) : Prop :=
  OwnB w' v' bs ∧ Mod (fun k => some k = v.ownBlock) w w' ∧ (v'.ownBlock = v.ownBlock ∨ ∃ k, v'.ownBlock = some k ∧ w.heap.size ≤ k)

theorem wpList_appB {w : World} {ops : Array Oper} {rest : List Oper} {o : Oper} {a : Act} {Q : Exit → Act → World → Prop} (hgd : o.guard = none) (s x : Operand)
    (ho : o.op = .call { callee := .builtin .append, args := #[s, x], argTypes := #[38, 38] })
    {v : Value} {bs : List Int} (hs : a.eval s = v) (hown : OwnB w v bs) {xv : Value} {new : List Int} (hx : a.eval x = xv) (hrd : RdB w xv new)
    (hroom : bs.length + new.length ≤ Room)
    (h : ∀ ao cap w', AppB w v (bs ++ new) (.slice ao (bs.length + new.length) cap) w' → wpList Try.prog ops Q rest (a.put o.dst (.slice ao (bs.length + new.length) cap)) w') : wpList Try.prog ops Q (o :: rest) a w := by
  obtain ⟨i0, hi, hz0, hz1, hz2⟩ := info_parts info_u8
  refine wpList_append hgd s x 38 ho 5 i0 (.int .u8 0) 1 1 Try.underlying38 hi hz0 hz1 hz2 rfl (by decide) IsB_zero v _ _ hs hown xv new.length (new.map bv) hx hrd.2 (isB_all hrd.1) (ints_oneCell .u8 new) ?_ ?_ ?_
  · unfold Room at hroom; omega
  · unfold Room at hroom; rw [maxLen_val]; omega
  · intro ao cap w' ⟨h1, h2, h3⟩
    refine h ao cap w' ⟨?_, h2, h3⟩
    unfold OwnB
    rw [List.length_append, List.map_append]
    exact h1

theorem step_appB {w : World} {ops : Array Oper} {o : Oper} {a : Act} {K : Act → World → Prop} {Q : Exit → Act → World → Prop} {X : Prop} (hgd : o.guard = none) (s x : Operand)
    (ho : o.op = .call { callee := .builtin .append, args := #[s, x], argTypes := #[38, 38] })
    {v : Value} {bs : List Int} (hs : a.eval s = v) (hown : OwnB w v bs) {xv : Value} {new : List Int} (hx : a.eval x = xv) (hrd : RdB w xv new)
    (hroom : bs.length + new.length ≤ Room)
    (h : ∀ ao cap w', AppB w v (bs ++ new) (.slice ao (bs.length + new.length) cap) w' → K (a.put o.dst (.slice ao (bs.length + new.length) cap)) w') :
    if Region.wanted o (yielded ops a.tmps) = true then Oper.wp Try.prog o a w K Q else X := by
  have hw : Region.wanted o (yielded ops a.tmps) = true := by simp [Region.wanted, hgd]
  rw [if_pos hw]
  obtain ⟨i0, hi, hz0, hz1, hz2⟩ := info_parts info_u8
  obtain ⟨ao, cap, w', hr, h1, h2, h3⟩ := run_append (P := Try.prog) w 38 o.type 5 i0 (.int .u8 0) 1 1 Try.underlying38 hi hz0 hz1 hz2 rfl (by decide) IsB_zero v _ _ hown xv new.length (new.map bv) hrd.2 (isB_all hrd.1) (ints_oneCell .u8 new)
    (by unfold Room at hroom; omega) (by unfold Room at hroom; rw [maxLen_val]; omega)
  unfold Oper.wp execOp
  simp only [ho, resolve, invoke, builtin, Sem.run_bind, Sem.run_pure, Result.andThen_ok, List.map_toArray, List.map_cons, List.map_nil, hs, hx, hr]
  refine h ao cap w' ⟨?_, h2, h3⟩
  unfold OwnB
  rw [List.length_append, List.map_append]
  exact h1

theorem mod_drewN {S : Nat → Prop} {a b : World} (h : Mod S a b) (n : Nat) : Mod S a (b.drewN n) := ⟨h.os, h.tape, h.output, h.size, h.block⟩
theorem mod_of_drewN {w w' : World} (h : ∃ n, w' = w.drewN n) (S : Nat → Prop) : Mod S w w' := by
  obtain ⟨n, rfl⟩ := h; exact mod_drewN (Mod.refl _ _) n
theorem ownBlock_map (ao : Option Addr) (n a b c d : Nat) : (Value.slice (ao.map fun x => x.add n) a b).ownBlock = (Value.slice ao c d).ownBlock := by
  cases ao with
  | none => rfl
  | some x => simp only [Option.map_some, Value.ownBlock, Option.some.injEq]; unfold Addr.add; split <;> rfl
/-- a slice that is new -/
def Fresh (w : World) (v : Value) : Prop := ∀ g, v.ownBlock = some g → w.heap.size ≤ g
end Go.Proofs.Ytknpapcfhnhheaa
