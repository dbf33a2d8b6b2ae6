/- gavelref01.Reader: numbers, rows, hashes as the document reads them; code.Reader.Row for any bound. -/
import Derived.Test.YtceojplopbjokaaPlain2
set_option maxRecDepth 100000
set_option linter.unusedVariables false
namespace Go.Proofs.Ytceojplopbjokaa
open Go Go.RowKit Go.Gv

theorem RefFail_any (r : Nat) (v : Value) (s : RSt) (w : World) (hR : Rr 75 w r v s) :
    Calls Try.prog 61 #[.pointer (some ⟨r, 0, none⟩)] w fun e w' => e = .returned (.tuple #[]) ∧ RrTo 75 w r v none w' := by
  obtain ⟨hc, hr, ha⟩ := hR
  have c0 : w.cell? ⟨r, 0, none⟩ = some v := (hc.cell 0).trans rfl
  have c1 : w.cell? ⟨r, 1, none⟩ = some (.bool s.isNone) := (hc.cell 1).trans rfl
  have f0 := hc.frozen 0
  have f1 := hc.frozen 1
  have HC := Lib.hid hc
  clear hc hr ha
  go_enter Try.func61, Try.ntmps61
  go_wp2
  go_end0
  refine ⟨rfl, .slice none 0 0, ⟨((HC.out.set 0 (.slice none 0 0)).set 1 (.bool true)), RdB.nil _, Apart.zero⟩, ((Mod.refl (fun k => k = r) w).setCell (fun _ => rfl) _).setCell (fun _ => rfl) _, fun h => by simp at h⟩

theorem acc_u64 (acc k d : Nat) (hacc : acc < 2 ^ (7 * k)) (hk : k ≤ 9) (hd : d < 128) (h9 : k = 9 → d ≤ 1) : acc + d * 2 ^ (7 * k) < U64 := by
  by_cases h : k = 9
  · subst h
    have := h9 rfl
    have : d * 2 ^ (7 * 9) ≤ 1 * 2 ^ (7 * 9) := Nat.mul_le_mul_right _ this
    unfold U64
    simp only [Nat.reduceMul, Nat.reducePow] at *
    omega
  · have := acc_lt acc k d hacc hd
    have h2 : 2 ^ (7 * (k + 1)) ≤ 2 ^ 63 := Nat.pow_le_pow_right (by decide) (by omega)
    unfold U64
    simp only [Nat.reducePow] at h2
    omega

set_option maxHeartbeats 1000000 in
theorem RefRNum_any (r : Nat) (v : Value) (s : RSt) (w : World) (hR : Rr 75 w r v s) :
    Calls Try.prog 53 #[.pointer (some ⟨r, 0, none⟩)] w fun e w' => e = .returned (.int .u64 ((rNum s).1 : Nat)) ∧ RrTo 75 w r v (rNum s).2 w' := by
  have c0 : w.cell? ⟨r, 0, none⟩ = some v := (hR.1.cell 0).trans rfl
  have f0 := hR.1.frozen 0
  have hlt := hR.1.lt
  have hr := hR.2.1
  have hfail := RefFail_any r v s w hR
  have hnone : decGo 0 0 (s.getD []) = none → rNum s = (0, none) := by
    intro h
    cases s with
    | none => rfl
    | some l => simp only [Option.getD_some] at h; simp [rNum, h]
  have hsome : ∀ n rest, decGo 0 0 (s.getD []) = some (n, rest) → rNum s = (n, some rest) ∧ s.isNone = false := by
    intro n rest h
    cases s with
    | none => simp [decGo] at h
    | some l => simp only [Option.getD_some] at h; simp [rNum, h]
  generalize hres : rNum s = res at *
  have HN := Lib.hid hnone
  have HS := Lib.hid hsome
  clear hnone hsome hres
  generalize hl : s.getD [] = l at *
  rcases hr.form with ⟨rfl, ao, cap, rfl, _⟩ | ⟨g, o, cap, hpos, rfl, hlc, hcm, hcell⟩
  · have HF := Lib.hid hfail
    have HE := Lib.hid (HN.out rfl)
    clear hfail hR hr
    go_enter Try.func53, Try.ntmps53
    go_wp2
    refine wp_loop_rounds 1 ?_
    rw [rounds_succ]
    go_wp2_with (go_at_call 61; go_must (refine HF.out.mono ?_); rintro e w1 ⟨rfl, hR1⟩; have HR1 := Lib.hid hR1; clear hR1)
    go_ret
    exact ⟨by rw [HE.out]; rfl, by rw [HE.out]; exact HR1.out⟩
  · rw [maxLen_val] at hcm
    have HR := Lib.hid hR
    have HF := Lib.hid hfail
    have HL := Lib.hid hl
    clear hR hr hfail hl
    go_enter Try.func53, Try.ntmps53
    go_wp2
    go_loop [3, 4] (fun n i => ∃ (k acc : Nat), k ≤ l.length ∧ k ≤ 10 ∧ acc < U64 ∧ (k ≤ 9 → acc < 2 ^ (7 * k) ∧ decGo k acc (l.drop k) = decGo 0 0 l) ∧ (k = 10 → decGo 0 0 l = none) ∧ i = .int .i64 k ∧ n = .int .u64 acc) (fun _ i => l.length - (intOf i).toNat)
    case atStart => exact ⟨0, 0, by omega, by omega, by unfold U64; omega, fun _ => ⟨by simp, by simp⟩, fun h => absurd h (by omega), rfl, rfl⟩
    case round =>
      obtain ⟨k, acc, hk, hk10, hau, hdec, hten, rfl, rfl⟩ := hrel
      have HD := Lib.hid hdec
      have H10 := Lib.hid hten
      have HAU := Lib.hid hau
      clear hdec hten hau
      by_cases hltk : k < l.length
      · by_cases hk9 : k < 10
        · obtain ⟨hacc, hdec⟩ := HD.out (by omega)
          have HACC := Lib.hid hacc
          have HDE := Lib.hid hdec
          clear hacc hdec
          have hc := hcell k hltk
          have hb : 0 ≤ l[k] ∧ l[k] < 256 := HR.out.2.1.1.get (by rw [HL.out]; exact hltk) |> fun h => by simpa [HL.out] using h
          obtain ⟨hb0, hb1⟩ := hb
          generalize hck : l[k] = c at *
          have HCK := Lib.hid hck
          clear hck hcell
          have hmod : c % 128 = (c.toNat % 128 : Nat) := by omega
          have HMOD := Lib.hid hmod
          clear hmod
          have hfail : (k = 9 ∧ 1 < c % 128) ∨ (0 < k ∧ c = 0) → decGo 0 0 l = none := by
            intro h
            rw [← HDE.out, drop_cons hltk HCK.out, decGo]
            rcases h with ⟨h1, h2⟩ | ⟨h1, h2⟩
            · rw [if_pos ⟨h1, by omega⟩]
            · subst h2
              rw [if_neg (by omega), if_pos (by omega), if_pos ⟨rfl, h1⟩]
          have HFL := Lib.hid hfail
          clear hfail
          by_cases h9 : k = 9 ∧ 1 < c % 128
          · obtain ⟨rfl, h9b⟩ := h9
            have HE := Lib.hid (HN.out (HFL.out (.inl ⟨rfl, h9b⟩)))
            go_wp2_with (go_at_call 61; go_must (refine HF.out.mono ?_); rintro e w1 ⟨rfl, hR1⟩; have HR1 := Lib.hid hR1; clear hR1)
            go_ret
            exact ⟨by rw [HE.out]; rfl, by rw [HE.out]; exact HR1.out⟩
          · have hcase : (((k : Int) == 9) = false ∧ k ≤ 8) ∨ (((k : Int) == 9) = true ∧ k = 9 ∧ c % 128 ≤ 1) := by
              by_cases h : k = 9
              · right; exact ⟨by simp [h], h, by omega⟩
              · left; exact ⟨by simp; omega, by omega⟩
            have hd9 : k = 9 → c.toNat % 128 ≤ 1 := fun h => by omega
            have hval := or_nat acc k (c.toNat % 128) HACC.out (by omega) (by omega) hd9
            rw [← HMOD.out] at hval
            have HV := Lib.hid hval
            have HD9 := Lib.hid hd9
            clear hval hd9 h9
            by_cases hc128 : c < 128
            · have hmc : c % 128 = c := by omega
              rw [hmc] at HV
              by_cases hz : 0 < k ∧ c = 0
              · obtain ⟨hk0, rfl⟩ := hz
                have HE := Lib.hid (HN.out (HFL.out (.inr ⟨hk0, rfl⟩)))
                rcases hcase with ⟨hcase, h8⟩ | ⟨hcase, h8, hc1⟩
                · go_wp2_with (go_at_call 61; go_must (refine HF.out.mono ?_); rintro e w1 ⟨rfl, hR1⟩; have HR1 := Lib.hid hR1; clear hR1)
                  go_ret
                  exact ⟨by rw [HE.out]; rfl, by rw [HE.out]; exact HR1.out⟩
                · subst h8
                  go_wp2_with (go_at_call 61; go_must (refine HF.out.mono ?_); rintro e w1 ⟨rfl, hR1⟩; have HR1 := Lib.hid hR1; clear hR1)
                  go_ret
                  exact ⟨by rw [HE.out]; rfl, by rw [HE.out]; exact HR1.out⟩
              · have hd : decGo 0 0 l = some (acc + c.toNat * 2 ^ (7 * k), l.drop (k + 1)) := by
                  rw [← HDE.out, drop_cons hltk HCK.out, decGo, if_neg (by have := HD9.out; omega), if_pos hc128, if_neg (by omega)]
                have HE := Lib.hid (HS.out _ _ hd)
                have HRL := Lib.hid (show RdB w (.slice (some ⟨g, o, none⟩) l.length cap) l by have := HR.out.2.1; rwa [HL.out] at this)
                clear hd
                have hv2 := HV.out
                rw [show IntKind.u64.wrap c = c by simp only [IntKind.wrap, IntKind.bits, IntKind.signed]; simp; omega, show c.toNat % 128 = c.toNat by omega] at hv2
                have HV2 := Lib.hid hv2
                clear hv2
                have hz2 : (c == 0) = false ∨ ((c == 0) = true ∧ k ≤ 0 ∧ ((k : Int) == 9) = false) := by
                  by_cases h : c = 0
                  · right; exact ⟨by simp [h], by omega, by simp; omega⟩
                  · left; simp [h]
                clear hz
                rcases hz2 with hz2 | ⟨hz2, hk0, hk09⟩
                · have hcase' : (((k : Int) == 9) = false) ∨ (((k : Int) == 9) = true ∧ c ≤ 1) := by
                    rcases hcase with ⟨h, _⟩ | ⟨h, _, h2⟩
                    · exact .inl h
                    · exact .inr ⟨h, by omega⟩
                  clear hcase
                  rcases hcase' with hcase | ⟨hcase, hc1⟩
                  all_goals
                    go_wp2
                    all_goals go_ret
                    all_goals
                      refine ⟨?_, ?_⟩
                      · rw [HE.out.1]; exact ret_int HV2.out
                      · rw [HE.out.1]
                        by_cases hcap : cap = k + 1
                        · first | (exfalso; exact absurd hcap (by assumption)) | (subst hcap; exact Rr_tail HR.out.1 HR.out.2.2 (s2 := some (l.drop (k + 1))) (RdB.tail_at HRL.out (k + 1) (by omega) rfl) (fun h => by simp at h; omega) (Mod.refl _ _) (by rw [HL.out]; simp) HE.out.2)
                        · first | (exfalso; exact absurd (by assumption) hcap) | (exact Rr_tail HR.out.1 HR.out.2.2 (s2 := some (l.drop (k + 1))) (RdB.tail_in HRL.out (k + 1) (by omega) hcap) (fun _ => rfl) (Mod.refl _ _) (by rw [HL.out]; simp) HE.out.2)
                · clear hcase
                  go_wp2
                  all_goals go_ret
                  all_goals
                      refine ⟨?_, ?_⟩
                      · rw [HE.out.1]; exact ret_int HV2.out
                      · rw [HE.out.1]
                        by_cases hcap : cap = k + 1
                        · first | (exfalso; exact absurd hcap (by assumption)) | (subst hcap; exact Rr_tail HR.out.1 HR.out.2.2 (s2 := some (l.drop (k + 1))) (RdB.tail_at HRL.out (k + 1) (by omega) rfl) (fun h => by simp at h; omega) (Mod.refl _ _) (by rw [HL.out]; simp) HE.out.2)
                        · first | (exfalso; exact absurd (by assumption) hcap) | (exact Rr_tail HR.out.1 HR.out.2.2 (s2 := some (l.drop (k + 1))) (RdB.tail_in HRL.out (k + 1) (by omega) hcap) (fun _ => rfl) (Mod.refl _ _) (by rw [HL.out]; simp) HE.out.2)
            · have hv2 := HV.out
              rw [show IntKind.u64.wrap (c % 128) = c % 128 by simp only [IntKind.wrap, IntKind.bits, IntKind.signed]; simp; omega] at hv2
              have HV2 := Lib.hid hv2
              have HB := Lib.hid (acc_u64 acc k (c.toNat % 128) HACC.out (by omega) (by omega) HD9.out)
              have HK1 := Lib.hid (show k + 1 ≤ 9 → acc + (c.toNat % 128) * 2 ^ (7 * k) < 2 ^ (7 * (k + 1)) ∧ decGo (k + 1) (acc + (c.toNat % 128) * 2 ^ (7 * k)) (l.drop (k + 1)) = decGo 0 0 l from by
                intro hk1
                refine ⟨acc_lt _ _ _ HACC.out (by omega), ?_⟩
                rw [← HDE.out, drop_cons hltk HCK.out, decGo, if_neg (by omega), if_neg hc128, show c.toNat % 128 = c.toNat - 128 by omega])
              have HK2 := Lib.hid (show k + 1 = 10 → decGo 0 0 l = none from by
                intro hk1
                rw [← HDE.out, drop_cons hltk HCK.out, decGo, if_pos (by omega)])
              clear hv2
              have hcase' : (((k : Int) == 9) = false) ∨ (((k : Int) == 9) = true ∧ c % 128 ≤ 1) := by
                rcases hcase with ⟨h, _⟩ | ⟨h, _, h2⟩
                · exact .inl h
                · exact .inr ⟨h, by omega⟩
              clear hcase
              rcases hcase' with hcase | ⟨hcase, hc1⟩
              all_goals
                go_wp2
                go_round
                case rel => exact ⟨k + 1, _, by omega, by omega, HB.out, HK1.out, HK2.out, by go_num, by rw [HV2.out]⟩
                case measure => simp [intOf]; omega
        · have HE := Lib.hid (HN.out (H10.out (by omega)))
          go_wp2_with (go_at_call 61; go_must (refine HF.out.mono ?_); rintro e w1 ⟨rfl, hR1⟩; have HR1 := Lib.hid hR1; clear hR1)
          go_ret
          exact ⟨by rw [HE.out]; rfl, by rw [HE.out]; exact HR1.out⟩
      · have hd : decGo 0 0 l = none := by
          by_cases h : k = 10
          · exact H10.out h
          · rw [← (HD.out (by omega)).2, List.drop_of_length_le (by omega)]; rfl
        have HE := Lib.hid (HN.out hd)
        clear hd
        go_wp2_with (go_at_call 61; go_must (refine HF.out.mono ?_); rintro e w1 ⟨rfl, hR1⟩; have HR1 := Lib.hid hR1; clear hR1)
        go_ret
        exact ⟨by rw [HE.out]; rfl, by rw [HE.out]; exact HR1.out⟩

theorem rNum_zero (s : RSt) : (rNum s).2 = none → (rNum s).1 = 0 := by
  cases s with
  | none => intro _; rfl
  | some l =>
    simp only [rNum]
    split
    · intro h; cases h
    · intro _; rfl
theorem RefRInt_any (r : Nat) (most : Int) (v : Value) (s : RSt) (w : World) (hR : Rr 75 w r v s) (hm : -9223372036854775808 ≤ most ∧ most ≤ 9223372036854775807) :
    Calls Try.prog 54 #[.pointer (some ⟨r, 0, none⟩), .int .i64 most] w fun e w' => e = .returned (.int .i64 ((rInt most s).1 : Nat)) ∧ RrTo 75 w r v (rInt most s).2 w' := by
  have hlt := rNum_lt hR.2.1.1
  have hz := rNum_zero s
  have key := RefRNum_any r v s w hR
  generalize hres : rNum s = res at *
  obtain ⟨n, s1⟩ := res
  have hI : rInt most s = if s1.isNone ∨ most < 0 ∨ most < n then (0, none) else (n, s1) := by simp [rInt, hres]
  rw [hI]
  clear hI hres
  simp only at key hlt hz
  have K := Lib.hid key
  clear key
  obtain ⟨hm0, hm1⟩ := hm
  unfold U64 at hlt
  by_cases h2 : most < 0 ∨ most < n
  · rw [if_pos (Or.inr h2)]
    by_cases h3 : most < 0
    all_goals
      go_enter Try.func54, Try.ntmps54
      go_wp2_with fail
      refine K.out.mono ?_
      rintro e w1 ⟨rfl, v1, hR1, hm1, hb1⟩
      have HF := Lib.hid (RefFail_any r v1 s1 w1 hR1)
      have HM1 := Lib.hid hm1
      have HB1 := Lib.hid hb1
      clear hR1 hm1 hb1
      go_wp2_with fail
      refine HF.out.mono ?_
      rintro e w2 ⟨rfl, hR2⟩
      have HR2 := Lib.hid hR2
      clear hR2
      go_wp2
      go_ret
      exact ⟨rfl, RrTo.trans HM1.out HB1.out HR2.out (by simp)⟩
  · have he : (if s1.isNone ∨ most < 0 ∨ most < n then ((0, none) : Nat × RSt) else (n, s1)) = (n, s1) := by
      split
      · rename_i h
        have h5 : s1 = none := by
          rcases h with h | h
          · simpa using h
          · exact absurd h h2
        rw [hz h5, h5]
      · rfl
    rw [he]
    clear he hz
    have h3 : ¬ most < 0 := by omega
    have h4 : ¬ most < n := by omega
    clear h2
    go_enter Try.func54, Try.ntmps54
    go_wp2_with fail
    refine K.out.mono ?_
    rintro e w1 ⟨rfl, hR1⟩
    have HR1 := Lib.hid hR1
    clear hR1
    go_wp2
    go_ret
    exact ⟨rfl, HR1.out⟩
end Go.Proofs.Ytceojplopbjokaa
