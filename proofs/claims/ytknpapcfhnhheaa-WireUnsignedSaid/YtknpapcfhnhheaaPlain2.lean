/- What calls write, what is read of it, what is read of a strict beginning of it. -/
import Derived.Test.YtknpapcfhnhheaaLoc
set_option maxRecDepth 100000
set_option linter.unusedVariables false
namespace Go.Proofs.Ytknpapcfhnhheaa
open Go Go.RowKit Go.Gv

theorem RdR.upto {R : Nat → Prop} {N : Nat} {w : World} {ao : Option Addr} {n cap : Nat} {bs : List Int} (h : RdR R N w (.slice ao n cap) bs) (k : Nat) (hk : k ≤ bs.length) : RdR R N w (.slice ao k cap) (bs.take k) := by
  refine ⟨h.1.upto k hk, fun h0 g hg => h.2.1 (by simp at h0; omega) g (by cases ao <;> simp_all [Value.ownBlock]), by have := h.2.2; simp; omega⟩

/-- the state of a reader that has less than all of `full` ahead -/
def SP (s : RSt) (full : List Int) : Prop := s = none ∨ ∃ t, s = some t ∧ t <+: full ∧ t.length < full.length

theorem SP.nil {s : RSt} (h : SP s []) : s = none := by
  rcases h with h | ⟨t, _, _, h⟩
  · exact h
  · simp at h
theorem SP.cut {t a rest : List Int} (h1 : t <+: a ++ rest) (h2 : t.length < (a ++ rest).length) : (t <+: a ∧ t.length < a.length) ∨ ∃ t', t = a ++ t' ∧ SP (some t') rest := by
  rcases Nat.lt_or_ge t.length a.length with h | h
  · exact .inl ⟨List.prefix_of_prefix_length_le h1 (List.prefix_append a rest) (by omega), h⟩
  · obtain ⟨t', rfl⟩ := List.prefix_of_prefix_length_le (List.prefix_append a rest) h1 h
    refine .inr ⟨t', rfl, .inr ⟨t', rfl, (List.prefix_append_right_inj a).1 h1, by simpa using h2⟩⟩

theorem dec_pre : ∀ (m i acc : Nat) (t : List Int), t <+: encN m → t.length < (encN m).length → decGo i acc t = none := by
  intro m
  induction m using Nat.strongRecOn with
  | _ m ih =>
    intro i acc t h1 h2
    by_cases hm : m < 128
    · rw [encN_lt hm] at h2
      obtain rfl : t = [] := List.eq_nil_of_length_eq_zero (by simpa using h2)
      rfl
    · rw [encN_ge (by omega)] at h1 h2
      cases t with
      | nil => rfl
      | cons c t =>
        obtain ⟨rfl, h1'⟩ := List.cons_prefix_cons.1 h1
        simp only [decGo]
        split
        · rfl
        · rw [if_neg (by omega)]
          exact ih (m / 128) (by omega) _ _ t h1' (by simpa using h2)

theorem SP.num {s : RSt} {n : Nat} {rest : List Int} (hn : n < U64) (h : SP s (encN n ++ rest)) : SP (rNum s).2 rest ∧ ((rNum s).2.isSome → (rNum s).1 = n) := by
  rcases h with rfl | ⟨t, rfl, h1, h2⟩
  · exact ⟨.inl rfl, by simp⟩
  · rcases SP.cut h1 h2 with ⟨h3, h4⟩ | ⟨t', rfl, h5⟩
    · have := dec_pre n 0 0 t h3 h4
      simp [rNum, this, SP]
    · rw [rNum_enc hn]
      exact ⟨h5, fun _ => rfl⟩
theorem SP.int {s : RSt} {n : Nat} {rest : List Int} (most : Int) (hn : n < U64) (h : SP s (encN n ++ rest)) : SP (rInt most s).2 rest ∧ ((rInt most s).2.isSome → (rInt most s).1 = n) := by
  have := h.num hn
  unfold rInt
  split
  · exact ⟨.inl rfl, by simp⟩
  · exact this
theorem SP.take {s : RSt} {a rest : List Int} (h : SP s (a ++ rest)) : SP (rTake a.length s).2 rest := by
  rcases h with rfl | ⟨t, rfl, h1, h2⟩
  · exact .inl rfl
  · rcases SP.cut h1 h2 with ⟨h3, h4⟩ | ⟨t', rfl, h5⟩
    · simp [rTake, h4, SP]
    · rw [rTake_app rfl]; exact h5
theorem SP.row {s : RSt} {bs rest : List Int} (most : Int) (hb : bs.length < U64) (h : SP s (encN bs.length ++ bs ++ rest)) : SP (rRow most s).2 rest := by
  rw [List.append_assoc] at h
  have h1 := h.int most hb
  unfold rRow
  cases hs : (rInt most s).2 with
  | none => exact .inl rfl
  | some u =>
    rw [h1.2 (by simp [hs]), ← hs]
    exact h1.1.take
theorem SP.hash {s : RSt} {hh rest : List Int} (hl : hh.length = 32) (h : SP s (hh ++ rest)) : SP (rHash s).2 rest := by
  have h1 := h.take
  rw [hl] at h1
  unfold rHash
  generalize rTake 32 s = q at *
  rcases q with ⟨b, _ | x⟩
  · exact .inl rfl
  · exact h1

theorem rRow_encA {bs : List Int} (hb : bs.length < U64) (most : Int) (rest : List Int) : rRow most (some (encN bs.length ++ bs ++ rest)) = if most < bs.length then ([], none) else (bs, some rest) := by
  rw [List.append_assoc, rRow_enc hb]

/-- the bytes of a call -/
def actB (nm : Int) (row : Nat) (a : Act01) : List Int :=
  if within a.Do 4 = 0 then encN a.U else if within a.Do 4 = 1 then encN (within a.N nm).toNat else if within a.Do 4 = 2 then encN (a.B.take row).length ++ a.B.take row else a.H
section
variable {nm : Int} {row : Nat} {a : Act01}
theorem actB_0 (h : within a.Do 4 = 0) : actB nm row a = encN a.U := by simp [actB, h]
theorem actB_1 (h : within a.Do 4 = 1) : actB nm row a = encN (within a.N nm).toNat := by simp [actB, h]
theorem actB_2 (h : within a.Do 4 = 2) : actB nm row a = encN (a.B.take row).length ++ a.B.take row := by simp [actB, h]
theorem actB_3 (h : within a.Do 4 = 3) : actB nm row a = a.H := by simp [actB, h]
end
theorem within_nat (v n : Int) (hn : 1 ≤ n) : ∃ k : Nat, within v n = k ∧ (k : Int) < n := by
  have := within_range v n hn
  exact ⟨(within v n).toNat, by omega, by omega⟩
theorem flat_take_succ {α : Type} (f : α → List Int) (l : List α) (i : Nat) (h : i < l.length) : (l.take (i + 1)).flatMap f = (l.take i).flatMap f ++ f l[i] := by
  rw [List.take_succ_eq_append_getElem h, List.flatMap_append]
  simp
theorem flat_drop {α : Type} (f : α → List Int) (l : List α) (i : Nat) (h : i < l.length) : (l.drop i).flatMap f = f l[i] ++ (l.drop (i + 1)).flatMap f := by
  rw [List.drop_eq_getElem_cons h, List.flatMap_cons]
theorem flat_dropn {α : Type} (f : α → List Int) (l : List α) (n i : Nat) (h : i < l.length) (hn : i < n) : ((l.take n).drop i).flatMap f = f l[i] ++ ((l.take n).drop (i + 1)).flatMap f := by
  rw [flat_drop f (l.take n) i (by simp; omega)]
  simp
theorem rHash_l (s : RSt) : (rHash s).1.length = 32 := by
  unfold rHash
  cases s with
  | none => simp
  | some bs =>
    simp only [rTake]
    split
    · rename_i h; split at h <;> simp_all
    · rename_i h
      split at h
      · simp at h
      · simp only [Prod.mk.injEq] at h
        obtain ⟨rfl, _⟩ := h
        simp; omega
end Go.Proofs.Ytknpapcfhnhheaa
