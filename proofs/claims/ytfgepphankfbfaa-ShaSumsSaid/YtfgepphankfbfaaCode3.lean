/- code.Reader.Num: the next number. -/
import Derived.Test.YtfgepphankfbfaaCode2
import Derived.Test.YtfgepphankfbfaaMem
import Derived.Laws.Cover3
set_option maxRecDepth 100000
namespace Go.Proofs.Ytfgepphankfbfaa
open Go Go.RowKit Go.Gv

theorem mask7 (x : Nat) : x &&& 127 = x % 128 := Nat.and_two_pow_sub_one_eq_mod x 7
theorem andNot128 {c : Int} (h0 : 0 ≤ c) (h1 : c < 256) : bits .andNot .u8 c 128 = ((c.toNat % 128 : Nat) : Int) := by
  rw [u8_andNot c 128 h0 h1 (by omega) (by omega)]
  exact congrArg Int.ofNat (mask7 c.toNat)
theorem and128_lo {c : Int} (h0 : 0 ≤ c) (h1 : c < 128) : (bits .and .u8 c 128 == 0) = true := by
  rw [u8_and c 128 h0 (by omega) (by omega) (by omega)]
  have d : ∀ x, x < 128 → x &&& 128 = 0 := by decide
  have := d c.toNat (by omega)
  simp [this]
theorem and128_hi {c : Int} (h0 : 128 ≤ c) (h1 : c < 256) : (bits .and .u8 c 128 == 0) = false := by
  rw [u8_and c 128 (by omega) (by omega) (by omega) (by omega)]
  have d : ∀ x, x < 256 → 128 ≤ x → x &&& 128 = 128 := by decide
  have := d c.toNat (by omega) (by omega)
  simp [this]
theorem or_nat (acc k d : Nat) (hacc : acc < 2 ^ (7 * k)) (hk : k ≤ 9) (hd : d < 128) (h9 : k = 9 → d ≤ 1) :
    bits .or .u64 (acc : Int) (IntKind.u64.wrap (IntKind.u64.wrap (d : Int) * 2 ^ (7 * k))) = ((acc + d * 2 ^ (7 * k) : Nat) : Int) := by
  have hp : d * 2 ^ (7 * k) < 18446744073709551616 := by
    have : k = 0 ∨ k = 1 ∨ k = 2 ∨ k = 3 ∨ k = 4 ∨ k = 5 ∨ k = 6 ∨ k = 7 ∨ k = 8 ∨ k = 9 := by omega
    rcases this with rfl | rfl | rfl | rfl | rfl | rfl | rfl | rfl | rfl | rfl
    all_goals (try have := h9 rfl)
    all_goals (simp only [Nat.reduceMul, Nat.reducePow]; omega)
  have ha : acc < 18446744073709551616 := by
    have : 2 ^ (7 * k) ≤ 2 ^ 63 := Nat.pow_le_pow_right (by decide) (by omega)
    omega
  have w1 : IntKind.u64.wrap (d : Int) = d := by simp only [IntKind.wrap, IntKind.bits, IntKind.signed]; simp <;> omega
  have e2 : (d : Int) * 2 ^ (7 * k) = ((d * 2 ^ (7 * k) : Nat) : Int) := by rw [Int.natCast_mul, Int.natCast_pow]; rfl
  have w2 : ∀ n : Nat, n < 18446744073709551616 → IntKind.u64.wrap (n : Int) = n := by
    intro n hn; simp only [IntKind.wrap, IntKind.bits, IntKind.signed]; simp; omega
  rw [w1, e2, w2 _ hp, u64_or_nat acc _ ha hp]
  rw [Nat.or_comm, nat_join (7 * k) (d * 2 ^ (7 * k)) acc (Nat.mul_mod_left _ _) hacc, Nat.add_comm]
theorem or_step (acc k : Nat) (c : Int) (hacc : acc < 2 ^ (7 * k)) (hk : k ≤ 9) (h0 : 0 ≤ c) (h1 : c < 256) (h9 : k = 9 → c ≤ 1) :
    bits .or .u64 (acc : Int) (IntKind.u64.wrap (IntKind.u64.wrap (bits .andNot .u8 c 128) * 2 ^ (7 * k))) = ((acc + (c.toNat % 128) * 2 ^ (7 * k) : Nat) : Int) := by
  rw [andNot128 h0 h1]
  exact or_nat acc k _ hacc hk (by omega) (fun h => by have := h9 h; omega)
theorem acc_lt (acc k d : Nat) (hacc : acc < 2 ^ (7 * k)) (hd : d < 128) : acc + d * 2 ^ (7 * k) < 2 ^ (7 * (k + 1)) := by
  have e : 2 ^ (7 * (k + 1)) = 128 * 2 ^ (7 * k) := by rw [Nat.mul_add, Nat.pow_add, Nat.mul_comm]
  have : (d + 1) * 2 ^ (7 * k) ≤ 128 * 2 ^ (7 * k) := Nat.mul_le_mul_right _ (by omega)
  rw [Nat.add_mul, Nat.one_mul] at this
  omega

theorem drop_cons {l : List Int} {k : Nat} (h : k < l.length) {c : Int} (hc : l[k] = c) : l.drop k = c :: l.drop (k + 1) := by
  rw [List.drop_eq_getElem_cons h, hc]

theorem rNum_none {l : List Int} (h : decGo 0 0 l = none) : rNum (some l) = (0, none) := by simp [rNum, h]
theorem rNum_some {l : List Int} {n : Nat} {r : List Int} (h : decGo 0 0 l = some (n, r)) : rNum (some l) = (n, some r) := by simp [rNum, h]

theorem decGo_lt : ∀ (l : List Int) (i acc n : Nat) (rest : List Int), i ≤ 9 → acc < 2 ^ (7 * i) → (∀ c ∈ l, 0 ≤ c ∧ c < 256) → decGo i acc l = some (n, rest) → n < U64 := by
  intro l
  induction l with
  | nil => intro i acc n rest _ _ _ h; cases h
  | cons c cs ih =>
    intro i acc n rest hi ha hb h
    have hc := hb c (List.mem_cons_self ..)
    rw [decGo] at h
    by_cases h1 : i = 9 ∧ 1 < c
    · rw [if_pos h1] at h; cases h
    · rw [if_neg h1] at h
      by_cases h2 : c < 128
      · rw [if_pos h2] at h
        by_cases h3 : c = 0 ∧ 0 < i
        · rw [if_pos h3] at h; cases h
        · rw [if_neg h3] at h
          simp only [Option.some.injEq, Prod.mk.injEq] at h
          obtain ⟨rfl, _⟩ := h
          by_cases h9 : i = 9
          · subst h9
            have hle : c.toNat ≤ 1 := by omega
            have : c.toNat * 2 ^ (7 * 9) ≤ 1 * 2 ^ (7 * 9) := Nat.mul_le_mul_right _ hle
            unfold U64
            simp only [Nat.reduceMul, Nat.reducePow] at *
            omega
          · have := acc_lt acc i c.toNat ha (by omega)
            have h2 : 2 ^ (7 * (i + 1)) ≤ 2 ^ 63 := Nat.pow_le_pow_right (by decide) (by omega)
            unfold U64
            simp only [Nat.reducePow] at h2
            omega
      · rw [if_neg h2] at h
        exact ih (i + 1) _ n rest (by omega) (acc_lt acc i _ ha (by omega)) (fun x hx => hb x (List.mem_cons_of_mem _ hx)) h
theorem decGo_rest : ∀ (l : List Int) (i acc n : Nat) (rest : List Int), decGo i acc l = some (n, rest) → ∃ k, 1 ≤ k ∧ k ≤ l.length ∧ rest = l.drop k := by
  intro l
  induction l with
  | nil => intro i acc n rest h; cases h
  | cons c cs ih =>
    intro i acc n rest h
    rw [decGo] at h
    split at h
    · cases h
    · split at h
      · split at h
        · cases h
        · simp only [Option.some.injEq, Prod.mk.injEq] at h
          exact ⟨1, by omega, by simp, by simp [h.2]⟩
      · obtain ⟨k, h1, h2, h3⟩ := ih _ _ _ _ h
        exact ⟨k + 1, by omega, by simpa using h2, by simpa using h3⟩
theorem rNum_lt {s : RSt} (hb : Bytes (s.getD [])) : (rNum s).1 < U64 := by
  cases s with
  | none => simp [rNum, U64]
  | some l =>
    simp only [rNum]
    split
    · rename_i n r h; exact decGo_lt l 0 0 n r (by omega) (by simp) hb h
    · simp [U64]

theorem rInt_le (most : Int) (s : RSt) : ((rInt most s).1 : Int) ≤ max most 0 := by
  unfold rInt
  split
  · simp; omega
  · rename_i h; simp at h; omega
theorem rNum_len (s : RSt) : ((rNum s).2.getD []).length ≤ (s.getD []).length := by
  cases s with
  | none => simp [rNum]
  | some l =>
    simp only [rNum]
    split
    · rename_i n rr h
      obtain ⟨k, _, _, rfl⟩ := decGo_rest _ _ _ _ _ h
      simp
    · simp
theorem rInt_len (most : Int) (s : RSt) : ((rInt most s).2.getD []).length ≤ (s.getD []).length := by
  unfold rInt; split
  · simp
  · exact rNum_len s
theorem rTake_len (n : Nat) (s : RSt) : ((rTake n s).2.getD []).length ≤ (s.getD []).length := by
  cases s with
  | none => simp [rTake]
  | some l => simp only [rTake]; split <;> simp

/-- an array of 32 bytes, as a value -/
def hv (h : List Int) : Value := .agg (h.map bv).toArray

theorem size_hash : (Try.prog.info? 26).map (·.size) = some 32 := by kernel_rfl

end Go.Proofs.Ytfgepphankfbfaa
