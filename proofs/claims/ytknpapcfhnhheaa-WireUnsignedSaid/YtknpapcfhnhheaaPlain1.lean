/- The plain law of numbers and rows as bytes: what is written is read. -/
import Derived.Test.YtknpapcfhnhheaaCode3
import Derived.Test.YtknpapcfhnhheaaCode1
set_option maxRecDepth 100000
namespace Go.Proofs.Ytknpapcfhnhheaa
open Go Go.RowKit Go.Gv

theorem pow128 (i : Nat) : 2 ^ (7 * (i + 1)) = 128 * 2 ^ (7 * i) := by rw [Nat.mul_add, Nat.pow_add, Nat.mul_comm]

theorem dec_enc (rest : List Int) : ∀ (m i acc : Nat), (i = 0 ∨ 1 ≤ m) → m * 2 ^ (7 * i) < U64 → i ≤ 9 → decGo i acc (encN m ++ rest) = some (acc + m * 2 ^ (7 * i), rest) := by
  intro m
  induction m using Nat.strongRecOn with
  | _ m ih =>
    intro i acc h1 h2 h3
    by_cases hm : m < 128
    · rw [encN_lt hm]
      simp only [List.cons_append, List.nil_append, decGo]
      have n1 : ¬ (i = 9 ∧ (1 : Int) < m) := by
        rintro ⟨rfl, h⟩
        unfold U64 at h2
        simp only [Nat.reduceMul, Nat.reducePow] at h2
        omega
      rw [if_neg n1, if_pos (by omega), if_neg (by omega)]
      simp
    · rw [encN_ge (by omega)]
      simp only [List.cons_append, decGo]
      have hp := pow128 i
      have hle : 128 * 2 ^ (7 * i) ≤ m * 2 ^ (7 * i) := Nat.mul_le_mul_right _ (by omega)
      have hi : i ≤ 8 := by
        rcases Nat.lt_or_ge i 9 with h | h
        · omega
        · obtain rfl : i = 9 := by omega
          unfold U64 at h2
          simp only [Nat.reduceMul, Nat.reducePow] at h2 hle
          omega
      have hdm : (m / 128) * 2 ^ (7 * (i + 1)) + (m % 128) * 2 ^ (7 * i) = m * 2 ^ (7 * i) := by
        rw [hp, ← Nat.mul_assoc, ← Nat.add_mul]
        congr 1
        omega
      rw [if_neg (by omega), if_neg (by omega)]
      have e : ((m : Int) % 128 + 128).toNat - 128 = m % 128 := by omega
      rw [e, ih (m / 128) (by omega) (i + 1) _ (.inr (by omega)) (by omega) (by omega)]
      congr 2
      omega

theorem rNum_enc {m : Nat} (hm : m < U64) (rest : List Int) : rNum (some (encN m ++ rest)) = (m, some rest) := by
  have := dec_enc rest m 0 0 (.inl rfl) (by simpa using hm) (by omega)
  simp [rNum, this]
theorem rInt_enc {m : Nat} (hm : m < U64) (most : Int) (rest : List Int) : rInt most (some (encN m ++ rest)) = if most < m then (0, none) else (m, some rest) := by
  simp only [rInt, rNum_enc hm, Option.isNone_some, Bool.false_eq_true, false_or]
  by_cases h : most < m
  · rw [if_pos (.inr h), if_pos h]
  · rw [if_neg (by omega), if_neg h]
theorem rTake_app {n : Nat} {a : List Int} (h : a.length = n) (rest : List Int) : rTake n (some (a ++ rest)) = (a, some rest) := by
  subst h
  simp [rTake]
theorem rRow_enc {bs : List Int} (hb : bs.length < U64) (most : Int) (rest : List Int) : rRow most (some (encN bs.length ++ (bs ++ rest))) = if most < bs.length then ([], none) else (bs, some rest) := by
  simp only [rRow, rInt_enc hb]
  by_cases h : most < bs.length
  · rw [if_pos h, if_pos h]; rfl
  · rw [if_neg h, if_neg h]; exact rTake_app rfl rest
theorem rHash_app {h : List Int} (hh : h.length = 32) (rest : List Int) : rHash (some (h ++ rest)) = (h, some rest) := by
  simp only [rHash, rTake_app hh]
@[simp] theorem rNum_none' : rNum none = (0, none) := rfl
@[simp] theorem rInt_none (most : Int) : rInt most none = (0, none) := by simp [rInt]
@[simp] theorem rTake_none (n : Nat) : rTake n none = ([], none) := rfl
@[simp] theorem rRow_none (most : Int) : rRow most none = ([], none) := by simp [rRow]
@[simp] theorem rHash_none : rHash none = (List.replicate 32 0, none) := rfl
end Go.Proofs.Ytknpapcfhnhheaa
