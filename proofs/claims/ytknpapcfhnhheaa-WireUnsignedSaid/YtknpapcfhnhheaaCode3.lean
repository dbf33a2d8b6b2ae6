/- code.Reader.Num: the next number. -/
import Derived.Test.YtknpapcfhnhheaaCode2
import Derived.Test.YtknpapcfhnhheaaMem
import Derived.Laws.Cover3
set_option maxRecDepth 100000
namespace Go.Proofs.Ytknpapcfhnhheaa
open Go Go.RowKit Go.Gv

theorem mask7 (x : Nat) : x &&& 127 = x % 128 := Nat.and_two_pow_sub_one_eq_mod x 7
theorem andNot128 {c : Int} (h0 : 0 ≤ c) (h1 : c < 256) : bits .andNot .u8 c 128 = ((c.toNat % 128 : Nat) : Int) := by
  rw [u8_andNot c 128 h0 h1 (by omega) (by omega)]
  exact congrArg Int.ofNat (mask7 c.toNat)
theorem and128_lo {c : Int} (h0 : 0 ≤ c) (h1 : c < 128) : (bits .and .u8 c 128 == 0) = true := by
  rw [u8_and c 128 h0 (by omega) (by omega) (by omega)]
  have d : ∀ x, x < 128 → x &&& 128 = 0 := by decide
  have := d c.toNat (by omega)
  simp [this]
theorem and128_hi {c : Int} (h0 : 128 ≤ c) (h1 : c < 256) : (bits .and .u8 c 128 == 0) = false := by
  rw [u8_and c 128 (by omega) (by omega) (by omega) (by omega)]
  have d : ∀ x, x < 256 → 128 ≤ x → x &&& 128 = 128 := by decide
  have := d c.toNat (by omega) (by omega)
  simp [this]
theorem or_nat (acc k d : Nat) (hacc : acc < 2 ^ (7 * k)) (hk : k ≤ 9) (hd : d < 128) (h9 : k = 9 → d ≤ 1) :
    bits .or .u64 (acc : Int) (IntKind.u64.wrap (IntKind.u64.wrap (d : Int) * 2 ^ (7 * k))) = ((acc + d * 2 ^ (7 * k) : Nat) : Int) := by
  have hp : d * 2 ^ (7 * k) < 18446744073709551616 := by
    have : k = 0 ∨ k = 1 ∨ k = 2 ∨ k = 3 ∨ k = 4 ∨ k = 5 ∨ k = 6 ∨ k = 7 ∨ k = 8 ∨ k = 9 := by omega
    rcases this with rfl | rfl | rfl | rfl | rfl | rfl | rfl | rfl | rfl | rfl
    all_goals (try have := h9 rfl)
    all_goals (simp only [Nat.reduceMul, Nat.reducePow]; omega)
  have ha : acc < 18446744073709551616 := by
    have : 2 ^ (7 * k) ≤ 2 ^ 63 := Nat.pow_le_pow_right (by decide) (by omega)
    omega
  have w1 : IntKind.u64.wrap (d : Int) = d := by simp only [IntKind.wrap, IntKind.bits, IntKind.signed]; simp <;> omega
  have e2 : (d : Int) * 2 ^ (7 * k) = ((d * 2 ^ (7 * k) : Nat) : Int) := by rw [Int.natCast_mul, Int.natCast_pow]; rfl
  have w2 : ∀ n : Nat, n < 18446744073709551616 → IntKind.u64.wrap (n : Int) = n := by
    intro n hn; simp only [IntKind.wrap, IntKind.bits, IntKind.signed]; simp; omega
  rw [w1, e2, w2 _ hp, u64_or_nat acc _ ha hp]
  rw [Nat.or_comm, nat_join (7 * k) (d * 2 ^ (7 * k)) acc (Nat.mul_mod_left _ _) hacc, Nat.add_comm]
theorem or_step (acc k : Nat) (c : Int) (hacc : acc < 2 ^ (7 * k)) (hk : k ≤ 9) (h0 : 0 ≤ c) (h1 : c < 256) (h9 : k = 9 → c ≤ 1) :
    bits .or .u64 (acc : Int) (IntKind.u64.wrap (IntKind.u64.wrap (bits .andNot .u8 c 128) * 2 ^ (7 * k))) = ((acc + (c.toNat % 128) * 2 ^ (7 * k) : Nat) : Int) := by
  rw [andNot128 h0 h1]
  exact or_nat acc k _ hacc hk (by omega) (fun h => by have := h9 h; omega)
theorem acc_lt (acc k d : Nat) (hacc : acc < 2 ^ (7 * k)) (hd : d < 128) : acc + d * 2 ^ (7 * k) < 2 ^ (7 * (k + 1)) := by
  have e : 2 ^ (7 * (k + 1)) = 128 * 2 ^ (7 * k) := by rw [Nat.mul_add, Nat.pow_add, Nat.mul_comm]
  have : (d + 1) * 2 ^ (7 * k) ≤ 128 * 2 ^ (7 * k) := Nat.mul_le_mul_right _ (by omega)
  rw [Nat.add_mul, Nat.one_mul] at this
  omega

theorem drop_cons {l : List Int} {k : Nat} (h : k < l.length) {c : Int} (hc : l[k] = c) : l.drop k = c :: l.drop (k + 1) := by
  rw [List.drop_eq_getElem_cons h, hc]

theorem rNum_none {l : List Int} (h : decGo 0 0 l = none) : rNum (some l) = (0, none) := by simp [rNum, h]
theorem rNum_some {l : List Int} {n : Nat} {r : List Int} (h : decGo 0 0 l = some (n, r)) : rNum (some l) = (n, some r) := by simp [rNum, h]

set_option maxHeartbeats 1000000 in
theorem RNum_good (r : Nat) (v : Value) (l : List Int) (w : World) (hR : Rr 125 w r v (some l)) :
    Calls Try.prog 116 #[.pointer (some ⟨r, 0, none⟩)] w fun e w' => e = .returned (.int .u64 ((rNum (some l)).1 : Nat)) ∧ RrTo 125 w r v (rNum (some l)).2 w' := by
  have c0 : w.cell? ⟨r, 0, none⟩ = some v := (hR.1.cell 0).trans rfl
  have f0 := hR.1.frozen 0
  have hlt := hR.1.lt
  have hr := hR.2.1
  have hfail := fail_any r v (some l) w hR
  simp only [Option.getD_some] at hr
  generalize hres : rNum (some l) = res at *
  have HRES := Lib.hid hres
  clear hres
  rcases hr.form with ⟨rfl, ao, cap, rfl, _⟩ | ⟨g, o, cap, hpos, rfl, hlc, hcm, hcell⟩
  · have HF := Lib.hid hfail
    have HE := Lib.hid (show res = (0, none) from HRES.out.symm.trans (rNum_none (l := []) rfl))
    clear hfail hR hr
    go_enter Try.func116, Try.ntmps116
    go_wp2
    refine wp_loop_rounds 1 ?_
    rw [rounds_succ]
    go_wp2_with (go_at_call 148; go_must (refine HF.out.mono ?_); rintro e w1 ⟨rfl, hR1⟩; have HR1 := Lib.hid hR1; clear hR1)
    go_ret
    exact ⟨by rw [HE.out]; rfl, by rw [HE.out]; exact HR1.out⟩
  · rw [maxLen_val] at hcm
    have HR := Lib.hid hR
    have HF := Lib.hid hfail
    clear hR hr hfail
    go_enter Try.func116, Try.ntmps116
    go_wp2
    go_loop [3, 4, 5, 11] (fun n _ _ i => ∃ (k acc : Nat), k ≤ l.length ∧ k ≤ 9 ∧ acc < 2 ^ (7 * k) ∧ i = .int .i64 k ∧ n = .int .u64 acc ∧ decGo k acc (l.drop k) = decGo 0 0 l) (fun _ _ _ i => l.length - (intOf i).toNat)
    case atStart => exact ⟨0, 0, by omega, by omega, by simp, rfl, rfl, by simp⟩
    case round =>
      obtain ⟨k, acc, hk, hk9, hacc, rfl, rfl, hdec⟩ := hrel
      have HD := Lib.hid hdec
      have HACC := Lib.hid hacc
      clear hdec hacc
      by_cases hltk : k < l.length
      · have hc := hcell k hltk
        have hb : 0 ≤ l[k] ∧ l[k] < 256 := HR.out.2.1.1.get hltk
        obtain ⟨hb0, hb1⟩ := hb
        generalize hck : l[k] = c at *
        have HCK := Lib.hid hck
        clear hck hcell
        by_cases hk8 : k = 9 ∧ 1 < c
        · obtain ⟨rfl, hc1⟩ := hk8
          have hd : decGo 0 0 l = none := by rw [← HD.out, drop_cons hltk HCK.out]; simp [decGo, hc1]
          have HE := Lib.hid (show res = (0, none) from HRES.out.symm.trans (rNum_none hd))
          clear hd
          go_wp2_with (go_at_call 148; go_must (refine HF.out.mono ?_); rintro e w1 ⟨rfl, hR1⟩; have HR1 := Lib.hid hR1; clear hR1)
          go_ret
          exact ⟨by rw [HE.out]; rfl, by rw [HE.out]; exact HR1.out⟩
        · have hn9 : k = 9 → c ≤ 1 := fun h => by omega
          have HN9 := Lib.hid hn9
          have hdec1 : decGo k acc (l.drop k) = if c < 128 then (if c = 0 ∧ 0 < k then none else some (acc + c.toNat * 2 ^ (7 * k), l.drop (k + 1))) else decGo (k + 1) (acc + (c.toNat - 128) * 2 ^ (7 * k)) (l.drop (k + 1)) := by
            rw [drop_cons hltk HCK.out, decGo, if_neg hk8]
          have HD1 := Lib.hid hdec1
          clear hdec1 hn9
          have hcase : (((k : Int) == 9) = false) ∨ (((k : Int) == 9) = true ∧ c ≤ 1) := by
            by_cases h : k = 9
            · right; exact ⟨by simp [h], by omega⟩
            · left; simp; omega
          clear hk8
          by_cases hc128 : c < 128
          · have ht := and128_lo hb0 hc128
            by_cases hz : c = 0 ∧ 0 < k
            · obtain ⟨rfl, hk0⟩ := hz
              have hd : decGo 0 0 l = none := by rw [← HD.out, HD1.out]; simp [hk0]
              have HE := Lib.hid (show res = (0, none) from HRES.out.symm.trans (rNum_none hd))
              clear hd
              rcases hcase with hcase | ⟨hcase, hcase2⟩
              all_goals
                go_wp2_with (go_at_call 148; go_must (refine HF.out.mono ?_); rintro e w1 ⟨rfl, hR1⟩; have HR1 := Lib.hid hR1; clear hR1)
                go_ret
                exact ⟨by rw [HE.out]; rfl, by rw [HE.out]; exact HR1.out⟩
            · have hd : decGo 0 0 l = some (acc + c.toNat * 2 ^ (7 * k), l.drop (k + 1)) := by rw [← HD.out, HD1.out, if_pos hc128, if_neg hz]
              have HE := Lib.hid (show res = (acc + c.toNat * 2 ^ (7 * k), some (l.drop (k + 1))) from HRES.out.symm.trans (rNum_some hd))
              have hval := or_step acc k c HACC.out hk9 hb0 hb1 HN9.out
              rw [show c.toNat % 128 = c.toNat by omega] at hval
              have HV := Lib.hid hval
              clear hd hval
              have hz2 : (c == 0) = false ∨ ((c == 0) = true ∧ k ≤ 0 ∧ ((k : Int) == 9) = false) := by
                by_cases h : c = 0
                · right; exact ⟨by simp [h], by omega, by simp; omega⟩
                · left; simp [h]
              clear hz
              rcases hz2 with hz2 | ⟨hz2, hk0, hk09⟩
              · rcases hcase with hcase | ⟨hcase, hcase2⟩
                all_goals
                  go_wp2
                  all_goals go_ret
                  all_goals
                    refine ⟨?_, ?_⟩
                    · rw [HE.out]; exact ret_int HV.out
                    · rw [HE.out]
                      by_cases hcap : cap = k + 1
                      · first | (exfalso; exact absurd hcap (by assumption)) | (subst hcap; exact Rr_tail HR.out.1 HR.out.2.2 (s2 := some (l.drop (k + 1))) (RdB.tail_at HR.out.2.1 (k + 1) (by simp; omega) rfl) (fun h => by simp at h; omega) (Mod.refl _ _))
                      · first | (exfalso; exact absurd (by assumption) hcap) | (exact Rr_tail HR.out.1 HR.out.2.2 (s2 := some (l.drop (k + 1))) (RdB.tail_in HR.out.2.1 (k + 1) (by simp; omega) hcap) (fun _ => rfl) (Mod.refl _ _))
              · clear hcase
                go_wp2
                all_goals go_ret
                all_goals
                  refine ⟨?_, ?_⟩
                  · rw [HE.out]; exact ret_int HV.out
                  · rw [HE.out]
                    by_cases hcap : cap = k + 1
                    · first | (exfalso; exact absurd hcap (by assumption)) | (subst hcap; exact Rr_tail HR.out.1 HR.out.2.2 (s2 := some (l.drop (k + 1))) (RdB.tail_at HR.out.2.1 (k + 1) (by simp; omega) rfl) (fun h => by simp at h; omega) (Mod.refl _ _))
                    · first | (exfalso; exact absurd (by assumption) hcap) | (exact Rr_tail HR.out.1 HR.out.2.2 (s2 := some (l.drop (k + 1))) (RdB.tail_in HR.out.2.1 (k + 1) (by simp; omega) hcap) (fun _ => rfl) (Mod.refl _ _))
          · have ht := and128_hi (by omega) hb1
            have hk9' : ((k : Int) == 9) = false := by rcases hcase with h | ⟨h, h2⟩; exact h; omega
            have hval := or_step acc k c HACC.out hk9 hb0 hb1 HN9.out
            have hk8 : k < 9 := by simp at hk9'; omega
            have HV := Lib.hid hval
            clear hval hcase
            go_wp2
            go_round
            case rel =>
              refine ⟨k + 1, acc + (c.toNat - 128) * 2 ^ (7 * k), by omega, by omega, acc_lt _ _ _ HACC.out (by omega), by go_num, ?_, ?_⟩
              · rw [HV.out, show c.toNat % 128 = c.toNat - 128 by omega]
              · rw [← HD.out, HD1.out, if_neg hc128]
            case measure => simp [intOf]; omega
      · have hd : decGo 0 0 l = none := by rw [← HD.out, List.drop_of_length_le (by omega)]; rfl
        have HE := Lib.hid (show res = (0, none) from HRES.out.symm.trans (rNum_none hd))
        clear hd
        go_wp2_with (go_at_call 148; go_must (refine HF.out.mono ?_); rintro e w1 ⟨rfl, hR1⟩; have HR1 := Lib.hid hR1; clear hR1)
        go_ret
        exact ⟨by rw [HE.out]; rfl, by rw [HE.out]; exact HR1.out⟩

theorem RNum_bad (r : Nat) (v : Value) (w : World) (hR : Rr 125 w r v none) :
    Calls Try.prog 116 #[.pointer (some ⟨r, 0, none⟩)] w fun e w' => e = .returned (.int .u64 0) ∧ RrTo 125 w r v none w' := by
  have c0 : w.cell? ⟨r, 0, none⟩ = some v := (hR.1.cell 0).trans rfl
  have hfail := fail_any r v none w hR
  obtain ⟨ao, cap, rfl, _, _⟩ := hR.2.1.shape
  have HF := Lib.hid hfail
  clear hfail hR
  simp only [Option.getD_none, List.length_nil] at c0 HF
  simp only [Option.getD_none, List.length_nil]
  go_enter Try.func116, Try.ntmps116
  go_wp2
  refine wp_loop_rounds 1 ?_
  rw [rounds_succ]
  go_wp2_with (go_at_call 148; go_must (refine HF.out.mono ?_); rintro e w1 ⟨rfl, hR1⟩; have HR1 := Lib.hid hR1; clear hR1)
  go_ret
  exact ⟨rfl, HR1.out⟩

theorem RNum_any (r : Nat) (v : Value) (s : RSt) (w : World) (hR : Rr 125 w r v s) :
    Calls Try.prog 116 #[.pointer (some ⟨r, 0, none⟩)] w fun e w' => e = .returned (.int .u64 ((rNum s).1 : Nat)) ∧ RrTo 125 w r v (rNum s).2 w' := by
  cases s with
  | none => exact RNum_bad r v w hR
  | some l => exact RNum_good r v l w hR

theorem decGo_lt : ∀ (l : List Int) (i acc n : Nat) (rest : List Int), i ≤ 9 → acc < 2 ^ (7 * i) → (∀ c ∈ l, 0 ≤ c ∧ c < 256) → decGo i acc l = some (n, rest) → n < U64 := by
  intro l
  induction l with
  | nil => intro i acc n rest _ _ _ h; cases h
  | cons c cs ih =>
    intro i acc n rest hi ha hb h
    have hc := hb c (List.mem_cons_self ..)
    rw [decGo] at h
    by_cases h1 : i = 9 ∧ 1 < c
    · rw [if_pos h1] at h; cases h
    · rw [if_neg h1] at h
      by_cases h2 : c < 128
      · rw [if_pos h2] at h
        by_cases h3 : c = 0 ∧ 0 < i
        · rw [if_pos h3] at h; cases h
        · rw [if_neg h3] at h
          simp only [Option.some.injEq, Prod.mk.injEq] at h
          obtain ⟨rfl, _⟩ := h
          by_cases h9 : i = 9
          · subst h9
            have hle : c.toNat ≤ 1 := by omega
            have : c.toNat * 2 ^ (7 * 9) ≤ 1 * 2 ^ (7 * 9) := Nat.mul_le_mul_right _ hle
            unfold U64
            simp only [Nat.reduceMul, Nat.reducePow] at *
            omega
          · have := acc_lt acc i c.toNat ha (by omega)
            have h2 : 2 ^ (7 * (i + 1)) ≤ 2 ^ 63 := Nat.pow_le_pow_right (by decide) (by omega)
            unfold U64
            simp only [Nat.reducePow] at h2
            omega
      · rw [if_neg h2] at h
        exact ih (i + 1) _ n rest (by omega) (acc_lt acc i _ ha (by omega)) (fun x hx => hb x (List.mem_cons_of_mem _ hx)) h
theorem decGo_rest : ∀ (l : List Int) (i acc n : Nat) (rest : List Int), decGo i acc l = some (n, rest) → ∃ k, 1 ≤ k ∧ k ≤ l.length ∧ rest = l.drop k := by
  intro l
  induction l with
  | nil => intro i acc n rest h; cases h
  | cons c cs ih =>
    intro i acc n rest h
    rw [decGo] at h
    split at h
    · cases h
    · split at h
      · split at h
        · cases h
        · simp only [Option.some.injEq, Prod.mk.injEq] at h
          exact ⟨1, by omega, by simp, by simp [h.2]⟩
      · obtain ⟨k, h1, h2, h3⟩ := ih _ _ _ _ h
        exact ⟨k + 1, by omega, by simpa using h2, by simpa using h3⟩
theorem rNum_lt {s : RSt} (hb : Bytes (s.getD [])) : (rNum s).1 < U64 := by
  cases s with
  | none => simp [rNum, U64]
  | some l =>
    simp only [rNum]
    split
    · rename_i n r h; exact decGo_lt l 0 0 n r (by omega) (by simp) hb h
    · simp [U64]

theorem RInt_any (r : Nat) (most : Int) (v : Value) (s : RSt) (w : World) (hR : Rr 125 w r v s) (hm : -9223372036854775808 ≤ most ∧ most ≤ 9223372036854775807) :
    Calls Try.prog 115 #[.pointer (some ⟨r, 0, none⟩), .int .i64 most] w fun e w' => e = .returned (.int .i64 ((rInt most s).1 : Nat)) ∧ RrTo 125 w r v (rInt most s).2 w' := by
  have hlt := rNum_lt hR.2.1.1
  have key := RNum_any r v s w hR
  generalize hres : rNum s = res at *
  obtain ⟨n, s1⟩ := res
  have hI : rInt most s = if s1.isNone ∨ most < 0 ∨ most < n then (0, none) else (n, s1) := by simp [rInt, hres]
  rw [hI]
  clear hI hres
  simp only at key hlt
  have K := Lib.hid key
  clear key
  obtain ⟨hm0, hm1⟩ := hm
  unfold U64 at hlt
  cases s1 with
  | none =>
    simp only [Option.isNone_none, true_or, ↓reduceIte]
    go_enter Try.func115, Try.ntmps115
    go_wp2_with fail
    refine K.out.mono ?_
    rintro e w1 ⟨rfl, v1, hR1, hm1, hb1⟩
    have c1 : w1.cell? ⟨r, 1, none⟩ = some (.bool true) := (hR1.1.cell 1).trans rfl
    have HF := Lib.hid (fail_any r v1 none w1 hR1)
    have HM1 := Lib.hid hm1
    have HB1 := Lib.hid hb1
    clear hR1 hm1 hb1
    go_wp2_with fail
    refine HF.out.mono ?_
    rintro e w2 ⟨rfl, hR2⟩
    have HR2 := Lib.hid hR2
    clear hR2
    go_wp2
    go_ret
    exact ⟨rfl, RrTo.trans HM1.out HB1.out HR2.out (by simp)⟩
  | some l1 =>
    rcases Int.lt_or_le most 0 with h2 | h2
    · rw [if_pos (Or.inr (Or.inl h2))]
      go_enter Try.func115, Try.ntmps115
      go_wp2_with fail
      refine K.out.mono ?_
      rintro e w1 ⟨rfl, v1, hR1, hm1, hb1⟩
      have c1 : w1.cell? ⟨r, 1, none⟩ = some (.bool false) := (hR1.1.cell 1).trans rfl
      have HF := Lib.hid (fail_any r v1 (some l1) w1 hR1)
      have HM1 := Lib.hid hm1
      have HB1 := Lib.hid hb1
      clear hR1 hm1 hb1
      go_wp2_with fail
      refine HF.out.mono ?_
      rintro e w2 ⟨rfl, hR2⟩
      have HR2 := Lib.hid hR2
      clear hR2
      go_wp2
      go_ret
      exact ⟨rfl, RrTo.trans HM1.out HB1.out HR2.out (by simp)⟩
    rcases Int.lt_or_le most n with h3 | h3
    · rw [if_pos (Or.inr (Or.inr h3))]
      have hd : decide (most < 0) = false := by simp; omega
      go_enter Try.func115, Try.ntmps115
      go_wp2_with fail
      refine K.out.mono ?_
      rintro e w1 ⟨rfl, v1, hR1, hm1, hb1⟩
      have c1 : w1.cell? ⟨r, 1, none⟩ = some (.bool false) := (hR1.1.cell 1).trans rfl
      have HF := Lib.hid (fail_any r v1 (some l1) w1 hR1)
      have HM1 := Lib.hid hm1
      have HB1 := Lib.hid hb1
      clear hR1 hm1 hb1
      go_wp2_with fail
      refine HF.out.mono ?_
      rintro e w2 ⟨rfl, hR2⟩
      have HR2 := Lib.hid hR2
      clear hR2
      go_wp2
      go_ret
      exact ⟨rfl, RrTo.trans HM1.out HB1.out HR2.out (by simp)⟩
    · rw [if_neg (by simp; omega)]
      have hd : decide (most < 0) = false := by simp; omega
      have hd2 : decide (most < (n : Int)) = false := by simp; omega
      go_enter Try.func115, Try.ntmps115
      go_wp2_with fail
      refine K.out.mono ?_
      rintro e w1 ⟨rfl, v1, hR1, hm1, hb1⟩
      have c1 : w1.cell? ⟨r, 1, none⟩ = some (.bool false) := (hR1.1.cell 1).trans rfl
      have HM1 := Lib.hid (⟨v1, hR1, hm1, hb1⟩ : RrTo 125 w r v (some l1) w1)
      clear hR1 hm1 hb1
      go_wp2
      go_ret
      exact ⟨rfl, HM1.out⟩

theorem rInt_le (most : Int) (s : RSt) : ((rInt most s).1 : Int) ≤ max most 0 := by
  unfold rInt
  split
  · simp; omega
  · rename_i h; simp at h; omega
theorem rNum_len (s : RSt) : ((rNum s).2.getD []).length ≤ (s.getD []).length := by
  cases s with
  | none => simp [rNum]
  | some l =>
    simp only [rNum]
    split
    · rename_i n rr h
      obtain ⟨k, _, _, rfl⟩ := decGo_rest _ _ _ _ _ h
      simp
    · simp
theorem rInt_len (most : Int) (s : RSt) : ((rInt most s).2.getD []).length ≤ (s.getD []).length := by
  unfold rInt; split
  · simp
  · exact rNum_len s
theorem rTake_len (n : Nat) (s : RSt) : ((rTake n s).2.getD []).length ≤ (s.getD []).length := by
  cases s with
  | none => simp [rTake]
  | some l => simp only [rTake]; split <;> simp

theorem RRow_any (r : Nat) (most : Int) (v : Value) (s : RSt) (w : World) (hR : Rr 125 w r v s) (hm : -9223372036854775808 ≤ most ∧ most ≤ 1000000000) :
    Calls Try.prog 149 #[.pointer (some ⟨r, 0, none⟩), .int .i64 most] w fun e w' => ∃ v', e = .returned v' ∧ OwnB w' v' (rRow most s).1 ∧ Fresh w v' ∧ RrTo 125 w r v (rRow most s).2 w' := by
  have key := RInt_any r most v s w hR ⟨hm.1, by omega⟩
  have hn : (rInt most s).1 ≤ 1000000000 := by have := rInt_le most s; omega
  have hrow : rRow most s = rTake (rInt most s).1 (rInt most s).2 := rfl
  rw [hrow]
  clear hrow
  generalize rInt most s = res at *
  obtain ⟨n, s1⟩ := res
  dsimp only at *
  have K := Lib.hid key
  have HL := Lib.hid (rTake_len n s1)
  clear key hm
  go_enter Try.func149, Try.ntmps149
  go_wp2_with fail
  refine K.out.mono ?_
  rintro e w1 ⟨rfl, v1, hR1, hm1, hb1⟩
  have HM1 := Lib.hid hm1
  have HB1 := Lib.hid hb1
  have HT := Lib.hid (take_any r n v1 s1 w1 hR1 hn)
  clear hR1 hm1 hb1
  go_wp2_with fail
  refine HT.out.mono ?_
  rintro e w2 ⟨v2, rfl, ho2, hf2, hR2⟩
  have HO2 := Lib.hid ho2
  have HF2 := Lib.hid hf2
  have HR2 := Lib.hid hR2
  clear ho2 hf2 hR2
  go_wp2
  go_ret
  exact ⟨v2, rfl, HO2.out, fun g hg => Nat.le_trans HM1.out.size (HF2.out g hg), RrTo.trans HM1.out HB1.out HR2.out HL.out⟩

/-- an array of 32 bytes, as a value -/
def hv (h : List Int) : Value := .agg (h.map bv).toArray

theorem size_hash : (Try.prog.info? 25).map (·.size) = some 32 := by kernel_rfl

theorem RHash_any (r : Nat) (v : Value) (s : RSt) (w : World) (hR : Rr 125 w r v s) :
    Calls Try.prog 144 #[.pointer (some ⟨r, 0, none⟩)] w fun e w' => e = .returned (hv (rHash s).1) ∧ RrTo 125 w r v (rHash s).2 w' := by
  have hlt := hR.1.lt
  obtain ⟨w1, e1, hR1, hc1, hm1⟩ : ∃ w1, w.alloc (.cells ((List.replicate 32 0).map bv).toArray 25) = w1 ∧ Rr 125 w1 r v s ∧ Cs w1 w.heap.size ((List.replicate 32 0).map bv).toArray 25 ∧ Mod (fun _ => False) w w1 :=
    ⟨_, rfl, hR.mod ((Mod.refl _ _).alloc _) id Apart.none, Cs.new _ _ _, (Mod.refl _ _).alloc _⟩
  have key := take_any r 32 v s w1 hR1 (by omega)
  have hh : rHash s = (if (rTake 32 s).2.isNone then List.replicate 32 0 else (rTake 32 s).1, (rTake 32 s).2) := by
    unfold rHash; rcases rTake 32 s with ⟨b, _ | x⟩ <;> rfl
  have hl32 : (rTake 32 s).2.isNone = false → (rTake 32 s).1.length = 32 := by
    cases s with
    | none => simp [rTake]
    | some l => simp only [rTake]; split <;> simp; omega
  have hvb : 0 < ((rTake 32 s).2.getD []).length → ∀ g, v.ownBlock = some g → g < w.heap.size := fun h => hR.2.1.block_lt (by have := rTake_len 32 s; omega)
  rw [hh]
  clear hh
  generalize rTake 32 s = res at *
  obtain ⟨b, s2⟩ := res
  dsimp only at *
  have K := Lib.hid key
  have HC1 := Lib.hid hc1
  have HM1 := Lib.hid hm1
  have E1 := Lib.hid (show w.alloc (.cells #[bv 0, bv 0, bv 0, bv 0, bv 0, bv 0, bv 0, bv 0, bv 0, bv 0, bv 0, bv 0, bv 0, bv 0, bv 0, bv 0, bv 0, bv 0, bv 0, bv 0, bv 0, bv 0, bv 0, bv 0, bv 0, bv 0, bv 0, bv 0, bv 0, bv 0, bv 0, bv 0] 25) = w1 from e1)
  have HL := Lib.hid hl32
  have HVB := Lib.hid hvb
  clear hvb
  clear key hc1 hm1 e1 hl32 hR hR1
  go_enter Try.func144, Try.ntmps144
  go_wp2_with fail
  rw [E1.out]
  refine K.out.mono ?_
  rintro e w2 ⟨v2, rfl, ho2, hf2, v3, hR2, hm2, hb2⟩
  have c1 : w2.cell? ⟨r, 1, none⟩ = some (.bool s2.isNone) := (hR2.1.cell 1).trans rfl
  have hc2 := HC1.out.mod hm2 (by omega)
  have HC2 := Lib.hid hc2
  have HO2 := Lib.hid ho2
  have hm : Mod (fun k => k = r) w w2 := (HM1.out.mono (fun _ _ h => h.elim)).trans hm2 (fun _ _ h => h)
  have HM := Lib.hid hm
  have HR2 := Lib.hid hR2
  have HB2 := Lib.hid hb2
  clear hc2 ho2 hf2 hR2 hm2 hb2 hm
  have hsz : (lay ((List.replicate 32 0).map bv).toArray 0 ((List.replicate 32 0).map bv)) = ((List.replicate 32 0).map bv).toArray := by rw [lay_whole]; simp
  have HSZ := Lib.hid hsz
  clear hsz
  cases s2 with
  | none =>
    simp only [Option.isNone_none] at c1
    go_wp2_with ((with_reducible show wpList _ _ _ (Oper.mk none (Op.store 25 (.tmp 2) (.tmp 10)) _ _ _ _ :: _) _ _); go_must (refine wpList_storeA rfl 25 (.tmp 2) (.tmp 10) rfl HC2.out (vs := (List.replicate 32 0).map bv) size_hash (ints_oneCell .u8 _) (by simp) rfl rfl ?_); intro w3 hc3 hm3; have HC3 := Lib.hid hc3; have HM3 := Lib.hid hm3; clear hc3 hm3)
    have hc3 := HC3.out
    rw [HSZ.out] at hc3
    refine bodyPost_ret (results_cellA rfl _ _ w.heap.size ((List.replicate 32 0).map bv) rfl (fun j u hu => by rw [hc3.cell]; simpa using hu) Try.underlying25 rfl size_hash) rfl ⟨rfl, ?_⟩
    obtain ⟨q1, q2, q3⟩ := HR2.out
    exact ⟨v3, ⟨q1.mod HM3.out (by omega), q2.mod HM3.out (by simp [Apart]), q3⟩, HM.out.trans (HM3.out.mono (S' := fun k => w.heap.size ≤ k) (fun k _ h => by omega)) (fun i hi h => by omega), by simp⟩
  | some l2 =>
    have hb32 := HL.out rfl
    simp only [Option.isNone_some] at c1
    rcases HO2.out.rd.form with ⟨h0, _⟩ | ⟨g, o, cap, _, e2, _, _, hcell⟩
    · rw [h0] at hb32; simp at hb32
    rw [hb32] at e2
    subst e2
    have hcl : ∀ j u, (b.map bv)[j]? = some u → w2.cell? ⟨g, o + j, none⟩ = some u := by
      intro j u hu
      simp only [List.getElem?_map, Option.map_eq_some_iff] at hu
      obtain ⟨x, hx, rfl⟩ := hu
      obtain ⟨hj, rfl⟩ := List.getElem?_eq_some_iff.1 hx
      exact hcell j hj
    have HCL := Lib.hid hcl
    have HSB := Lib.hid (show (Try.prog.info? 25).map (·.size) = some (b.map bv).length by rw [List.length_map, hb32]; exact size_hash)
    have HFIT := Lib.hid (show 0 + (b.map bv).length ≤ ((List.replicate 32 0).map bv).toArray.size by simp [hb32])
    have harr := fun (w : World) => run_arrayAt (P := Try.prog) (w := w) 25 5 32 (some ⟨g, o, none⟩) 32 cap Try.underlying25 (Nat.le_refl _)
    clear hcell hcl hb32
    go_wp2_with (first
      | ((with_reducible show wpList _ _ _ (Oper.mk (some 13) _ _ _ _ _ :: _) _ _); go_must (refine wpList_loadA rfl 25 (.tmp 12) rfl Try.underlying25 rfl (g := g) (off := o) (cs := b.map bv) HSB.out rfl HCL.out ?_))
      | ((with_reducible show wpList _ _ _ (Oper.mk none (Op.store 25 (.tmp 2) (.tmp 13)) _ _ _ _ :: _) _ _); go_must (refine wpList_storeA rfl 25 (.tmp 2) (.tmp 13) rfl HC2.out (vs := b.map bv) HSB.out (ints_oneCell .u8 _) HFIT.out rfl rfl ?_); intro w3 hc3 hm3; have HC3 := Lib.hid hc3; have HM3 := Lib.hid hm3; clear hc3 hm3))
    have hc3 := HC3.out
    have hb32 := HL.out rfl
    rw [lay_whole _ _ (by simp [hb32])] at hc3
    refine bodyPost_ret (results_cellA rfl _ _ w.heap.size (b.map bv) rfl (fun j u hu => by rw [hc3.cell]; simpa using hu) Try.underlying25 rfl HSB.out) rfl ⟨rfl, ?_⟩
    obtain ⟨q1, q2, q3⟩ := HR2.out
    refine ⟨v3, ⟨q1.mod HM3.out (by omega), q2.mod HM3.out ?_, q3⟩, HM.out.trans (HM3.out.mono (S' := fun k => w.heap.size ≤ k) (fun k _ h => by omega)) (fun i hi h => by omega), HB2.out⟩
    intro h0 g hg e
    have := HVB.out h0 g (by rw [← HB2.out h0]; exact hg)
    omega
end Go.Proofs.Ytknpapcfhnhheaa
