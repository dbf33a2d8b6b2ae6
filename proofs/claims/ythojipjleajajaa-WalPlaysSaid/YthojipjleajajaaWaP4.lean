/- Texts that are built one behind the other: XRead2, XRead3, XRead4, XVr2, XVr3, XVr4. No condition. -/
import Derived.Test.YthojipjleajajaaWaP3
set_option maxRecDepth 100000
set_option linter.unusedVariables false
/- gavelref01.Reader: numbers, rows, hashes as the document reads them; code.Reader.Row for any bound. -/
namespace Go.Proofs.Ythojipjleajajaa
open Go Go.RowKit Go.Gv

theorem RefFail_any (r : Nat) (v : Value) (s : RSt) (w : World) (hR : Rr 73 w r v s) :
    Calls Try.prog 51 #[.pointer (some ⟨r, 0, none⟩)] w fun e w' => e = .returned (.tuple #[]) ∧ RrTo 73 w r v none w' := by
  obtain ⟨hc, hr, ha⟩ := hR
  have c0 : w.cell? ⟨r, 0, none⟩ = some v := (hc.cell 0).trans rfl
  have c1 : w.cell? ⟨r, 1, none⟩ = some (.bool s.isNone) := (hc.cell 1).trans rfl
  have f0 := hc.frozen 0
  have f1 := hc.frozen 1
  have HC := Lib.hid hc
  clear hc hr ha
  go_enter Try.func51, Try.ntmps51
  go_wp2
  go_end0
  refine ⟨rfl, .slice none 0 0, ⟨((HC.out.set 0 (.slice none 0 0)).set 1 (.bool true)), RdB.nil _, Apart.zero⟩, ((Mod.refl (fun k => k = r) w).setCell (fun _ => rfl) _).setCell (fun _ => rfl) _, fun h => by simp at h⟩

theorem acc_u64 (acc k d : Nat) (hacc : acc < 2 ^ (7 * k)) (hk : k ≤ 9) (hd : d < 128) (h9 : k = 9 → d ≤ 1) : acc + d * 2 ^ (7 * k) < U64 := by
  by_cases h : k = 9
  · subst h
    have := h9 rfl
    have : d * 2 ^ (7 * 9) ≤ 1 * 2 ^ (7 * 9) := Nat.mul_le_mul_right _ this
    unfold U64
    simp only [Nat.reduceMul, Nat.reducePow] at *
    omega
  · have := acc_lt acc k d hacc hd
    have h2 : 2 ^ (7 * (k + 1)) ≤ 2 ^ 63 := Nat.pow_le_pow_right (by decide) (by omega)
    unfold U64
    simp only [Nat.reducePow] at h2
    omega

set_option maxHeartbeats 1000000 in
theorem RefRNum_any (r : Nat) (v : Value) (s : RSt) (w : World) (hR : Rr 73 w r v s) :
    Calls Try.prog 56 #[.pointer (some ⟨r, 0, none⟩)] w fun e w' => e = .returned (.int .u64 ((rNum s).1 : Nat)) ∧ RrTo 73 w r v (rNum s).2 w' := by
  have c0 : w.cell? ⟨r, 0, none⟩ = some v := (hR.1.cell 0).trans rfl
  have f0 := hR.1.frozen 0
  have hlt := hR.1.lt
  have hr := hR.2.1
  have hfail := RefFail_any r v s w hR
  have hnone : decGo 0 0 (s.getD []) = none → rNum s = (0, none) := by
    intro h
    cases s with
    | none => rfl
    | some l => simp only [Option.getD_some] at h; simp [rNum, h]
  have hsome : ∀ n rest, decGo 0 0 (s.getD []) = some (n, rest) → rNum s = (n, some rest) ∧ s.isNone = false := by
    intro n rest h
    cases s with
    | none => simp [decGo] at h
    | some l => simp only [Option.getD_some] at h; simp [rNum, h]
  generalize hres : rNum s = res at *
  have HN := Lib.hid hnone
  have HS := Lib.hid hsome
  clear hnone hsome hres
  generalize hl : s.getD [] = l at *
  rcases hr.form with ⟨rfl, ao, cap, rfl, _⟩ | ⟨g, o, cap, hpos, rfl, hlc, hcm, hcell⟩
  · have HF := Lib.hid hfail
    have HE := Lib.hid (HN.out rfl)
    clear hfail hR hr
    go_enter Try.func56, Try.ntmps56
    go_wp2
    refine wp_loop_rounds 1 ?_
    rw [rounds_succ]
    go_wp2_with (go_at_call 51; go_must (refine HF.out.mono ?_); rintro e w1 ⟨rfl, hR1⟩; have HR1 := Lib.hid hR1; clear hR1)
    go_ret
    exact ⟨by rw [HE.out]; rfl, by rw [HE.out]; exact HR1.out⟩
  · rw [maxLen_val] at hcm
    have HR := Lib.hid hR
    have HF := Lib.hid hfail
    have HL := Lib.hid hl
    clear hR hr hfail hl
    go_enter Try.func56, Try.ntmps56
    go_wp2
    go_loop [3, 4] (fun n i => ∃ (k acc : Nat), k ≤ l.length ∧ k ≤ 10 ∧ acc < U64 ∧ (k ≤ 9 → acc < 2 ^ (7 * k) ∧ decGo k acc (l.drop k) = decGo 0 0 l) ∧ (k = 10 → decGo 0 0 l = none) ∧ i = .int .i64 k ∧ n = .int .u64 acc) (fun _ i => l.length - (intOf i).toNat)
    case atStart => exact ⟨0, 0, by omega, by omega, by unfold U64; omega, fun _ => ⟨by simp, by simp⟩, fun h => absurd h (by omega), rfl, rfl⟩
    case round =>
      obtain ⟨k, acc, hk, hk10, hau, hdec, hten, rfl, rfl⟩ := hrel
      have HD := Lib.hid hdec
      have H10 := Lib.hid hten
      have HAU := Lib.hid hau
      clear hdec hten hau
      by_cases hltk : k < l.length
      · by_cases hk9 : k < 10
        · obtain ⟨hacc, hdec⟩ := HD.out (by omega)
          have HACC := Lib.hid hacc
          have HDE := Lib.hid hdec
          clear hacc hdec
          have hc := hcell k hltk
          have hb : 0 ≤ l[k] ∧ l[k] < 256 := HR.out.2.1.1.get (by rw [HL.out]; exact hltk) |> fun h => by simpa [HL.out] using h
          obtain ⟨hb0, hb1⟩ := hb
          generalize hck : l[k] = c at *
          have HCK := Lib.hid hck
          clear hck hcell
          have hmod : c % 128 = (c.toNat % 128 : Nat) := by omega
          have HMOD := Lib.hid hmod
          clear hmod
          have hfail : (k = 9 ∧ 1 < c % 128) ∨ (0 < k ∧ c = 0) → decGo 0 0 l = none := by
            intro h
            rw [← HDE.out, drop_cons hltk HCK.out, decGo]
            rcases h with ⟨h1, h2⟩ | ⟨h1, h2⟩
            · rw [if_pos ⟨h1, by omega⟩]
            · subst h2
              rw [if_neg (by omega), if_pos (by omega), if_pos ⟨rfl, h1⟩]
          have HFL := Lib.hid hfail
          clear hfail
          by_cases h9 : k = 9 ∧ 1 < c % 128
          · obtain ⟨rfl, h9b⟩ := h9
            have HE := Lib.hid (HN.out (HFL.out (.inl ⟨rfl, h9b⟩)))
            go_wp2_with (go_at_call 51; go_must (refine HF.out.mono ?_); rintro e w1 ⟨rfl, hR1⟩; have HR1 := Lib.hid hR1; clear hR1)
            go_ret
            exact ⟨by rw [HE.out]; rfl, by rw [HE.out]; exact HR1.out⟩
          · have hcase : (((k : Int) == 9) = false ∧ k ≤ 8) ∨ (((k : Int) == 9) = true ∧ k = 9 ∧ c % 128 ≤ 1) := by
              by_cases h : k = 9
              · right; exact ⟨by simp [h], h, by omega⟩
              · left; exact ⟨by simp; omega, by omega⟩
            have hd9 : k = 9 → c.toNat % 128 ≤ 1 := fun h => by omega
            have hval := or_nat acc k (c.toNat % 128) HACC.out (by omega) (by omega) hd9
            rw [← HMOD.out] at hval
            have HV := Lib.hid hval
            have HD9 := Lib.hid hd9
            clear hval hd9 h9
            by_cases hc128 : c < 128
            · have hmc : c % 128 = c := by omega
              rw [hmc] at HV
              by_cases hz : 0 < k ∧ c = 0
              · obtain ⟨hk0, rfl⟩ := hz
                have HE := Lib.hid (HN.out (HFL.out (.inr ⟨hk0, rfl⟩)))
                rcases hcase with ⟨hcase, h8⟩ | ⟨hcase, h8, hc1⟩
                · go_wp2_with (go_at_call 51; go_must (refine HF.out.mono ?_); rintro e w1 ⟨rfl, hR1⟩; have HR1 := Lib.hid hR1; clear hR1)
                  go_ret
                  exact ⟨by rw [HE.out]; rfl, by rw [HE.out]; exact HR1.out⟩
                · subst h8
                  go_wp2_with (go_at_call 51; go_must (refine HF.out.mono ?_); rintro e w1 ⟨rfl, hR1⟩; have HR1 := Lib.hid hR1; clear hR1)
                  go_ret
                  exact ⟨by rw [HE.out]; rfl, by rw [HE.out]; exact HR1.out⟩
              · have hd : decGo 0 0 l = some (acc + c.toNat * 2 ^ (7 * k), l.drop (k + 1)) := by
                  rw [← HDE.out, drop_cons hltk HCK.out, decGo, if_neg (by have := HD9.out; omega), if_pos hc128, if_neg (by omega)]
                have HE := Lib.hid (HS.out _ _ hd)
                have HRL := Lib.hid (show RdB w (.slice (some ⟨g, o, none⟩) l.length cap) l by have := HR.out.2.1; rwa [HL.out] at this)
                clear hd
                have hv2 := HV.out
                rw [show IntKind.u64.wrap c = c by simp only [IntKind.wrap, IntKind.bits, IntKind.signed]; simp; omega, show c.toNat % 128 = c.toNat by omega] at hv2
                have HV2 := Lib.hid hv2
                clear hv2
                have hz2 : (c == 0) = false ∨ ((c == 0) = true ∧ k ≤ 0 ∧ ((k : Int) == 9) = false) := by
                  by_cases h : c = 0
                  · right; exact ⟨by simp [h], by omega, by simp; omega⟩
                  · left; simp [h]
                clear hz
                rcases hz2 with hz2 | ⟨hz2, hk0, hk09⟩
                · have hcase' : (((k : Int) == 9) = false) ∨ (((k : Int) == 9) = true ∧ c ≤ 1) := by
                    rcases hcase with ⟨h, _⟩ | ⟨h, _, h2⟩
                    · exact .inl h
                    · exact .inr ⟨h, by omega⟩
                  clear hcase
                  rcases hcase' with hcase | ⟨hcase, hc1⟩
                  all_goals
                    go_wp2
                    all_goals go_ret
                    all_goals
                      refine ⟨?_, ?_⟩
                      · rw [HE.out.1]; exact ret_int HV2.out
                      · rw [HE.out.1]
                        by_cases hcap : cap = k + 1
                        · first | (exfalso; exact absurd hcap (by assumption)) | (subst hcap; exact Rr_tail HR.out.1 HR.out.2.2 (s2 := some (l.drop (k + 1))) (RdB.tail_at HRL.out (k + 1) (by omega) rfl) (fun h => by simp at h; omega) (Mod.refl _ _) (by rw [HL.out]; simp) HE.out.2)
                        · first | (exfalso; exact absurd (by assumption) hcap) | (exact Rr_tail HR.out.1 HR.out.2.2 (s2 := some (l.drop (k + 1))) (RdB.tail_in HRL.out (k + 1) (by omega) hcap) (fun _ => rfl) (Mod.refl _ _) (by rw [HL.out]; simp) HE.out.2)
                · clear hcase
                  go_wp2
                  all_goals go_ret
                  all_goals
                      refine ⟨?_, ?_⟩
                      · rw [HE.out.1]; exact ret_int HV2.out
                      · rw [HE.out.1]
                        by_cases hcap : cap = k + 1
                        · first | (exfalso; exact absurd hcap (by assumption)) | (subst hcap; exact Rr_tail HR.out.1 HR.out.2.2 (s2 := some (l.drop (k + 1))) (RdB.tail_at HRL.out (k + 1) (by omega) rfl) (fun h => by simp at h; omega) (Mod.refl _ _) (by rw [HL.out]; simp) HE.out.2)
                        · first | (exfalso; exact absurd (by assumption) hcap) | (exact Rr_tail HR.out.1 HR.out.2.2 (s2 := some (l.drop (k + 1))) (RdB.tail_in HRL.out (k + 1) (by omega) hcap) (fun _ => rfl) (Mod.refl _ _) (by rw [HL.out]; simp) HE.out.2)
            · have hv2 := HV.out
              rw [show IntKind.u64.wrap (c % 128) = c % 128 by simp only [IntKind.wrap, IntKind.bits, IntKind.signed]; simp; omega] at hv2
              have HV2 := Lib.hid hv2
              have HB := Lib.hid (acc_u64 acc k (c.toNat % 128) HACC.out (by omega) (by omega) HD9.out)
              have HK1 := Lib.hid (show k + 1 ≤ 9 → acc + (c.toNat % 128) * 2 ^ (7 * k) < 2 ^ (7 * (k + 1)) ∧ decGo (k + 1) (acc + (c.toNat % 128) * 2 ^ (7 * k)) (l.drop (k + 1)) = decGo 0 0 l from by
                intro hk1
                refine ⟨acc_lt _ _ _ HACC.out (by omega), ?_⟩
                rw [← HDE.out, drop_cons hltk HCK.out, decGo, if_neg (by omega), if_neg hc128, show c.toNat % 128 = c.toNat - 128 by omega])
              have HK2 := Lib.hid (show k + 1 = 10 → decGo 0 0 l = none from by
                intro hk1
                rw [← HDE.out, drop_cons hltk HCK.out, decGo, if_pos (by omega)])
              clear hv2
              have hcase' : (((k : Int) == 9) = false) ∨ (((k : Int) == 9) = true ∧ c % 128 ≤ 1) := by
                rcases hcase with ⟨h, _⟩ | ⟨h, _, h2⟩
                · exact .inl h
                · exact .inr ⟨h, by omega⟩
              clear hcase
              rcases hcase' with hcase | ⟨hcase, hc1⟩
              all_goals
                go_wp2
                go_round
                case rel => exact ⟨k + 1, _, by omega, by omega, HB.out, HK1.out, HK2.out, by go_num, by rw [HV2.out]⟩
                case measure => simp [intOf]; omega
        · have HE := Lib.hid (HN.out (H10.out (by omega)))
          go_wp2_with (go_at_call 51; go_must (refine HF.out.mono ?_); rintro e w1 ⟨rfl, hR1⟩; have HR1 := Lib.hid hR1; clear hR1)
          go_ret
          exact ⟨by rw [HE.out]; rfl, by rw [HE.out]; exact HR1.out⟩
      · have hd : decGo 0 0 l = none := by
          by_cases h : k = 10
          · exact H10.out h
          · rw [← (HD.out (by omega)).2, List.drop_of_length_le (by omega)]; rfl
        have HE := Lib.hid (HN.out hd)
        clear hd
        go_wp2_with (go_at_call 51; go_must (refine HF.out.mono ?_); rintro e w1 ⟨rfl, hR1⟩; have HR1 := Lib.hid hR1; clear hR1)
        go_ret
        exact ⟨by rw [HE.out]; rfl, by rw [HE.out]; exact HR1.out⟩

theorem rNum_zero (s : RSt) : (rNum s).2 = none → (rNum s).1 = 0 := by
  cases s with
  | none => intro _; rfl
  | some l =>
    simp only [rNum]
    split
    · intro h; cases h
    · intro _; rfl
theorem RefRInt_any (r : Nat) (most : Int) (v : Value) (s : RSt) (w : World) (hR : Rr 73 w r v s) (hm : -9223372036854775808 ≤ most ∧ most ≤ 9223372036854775807) :
    Calls Try.prog 50 #[.pointer (some ⟨r, 0, none⟩), .int .i64 most] w fun e w' => e = .returned (.int .i64 ((rInt most s).1 : Nat)) ∧ RrTo 73 w r v (rInt most s).2 w' := by
  have hlt := rNum_lt hR.2.1.1
  have hz := rNum_zero s
  have key := RefRNum_any r v s w hR
  generalize hres : rNum s = res at *
  obtain ⟨n, s1⟩ := res
  have hI : rInt most s = if s1.isNone ∨ most < 0 ∨ most < n then (0, none) else (n, s1) := by simp [rInt, hres]
  rw [hI]
  clear hI hres
  simp only at key hlt hz
  have K := Lib.hid key
  clear key
  obtain ⟨hm0, hm1⟩ := hm
  unfold U64 at hlt
  by_cases h2 : most < 0 ∨ most < n
  · rw [if_pos (Or.inr h2)]
    by_cases h3 : most < 0
    all_goals
      go_enter Try.func50, Try.ntmps50
      go_wp2_with fail
      refine K.out.mono ?_
      rintro e w1 ⟨rfl, v1, hR1, hm1, hb1⟩
      have HF := Lib.hid (RefFail_any r v1 s1 w1 hR1)
      have HM1 := Lib.hid hm1
      have HB1 := Lib.hid hb1
      clear hR1 hm1 hb1
      go_wp2_with fail
      refine HF.out.mono ?_
      rintro e w2 ⟨rfl, hR2⟩
      have HR2 := Lib.hid hR2
      clear hR2
      go_wp2
      go_ret
      exact ⟨rfl, RrTo.trans HM1.out HB1.out HR2.out (by simp)⟩
  · have he : (if s1.isNone ∨ most < 0 ∨ most < n then ((0, none) : Nat × RSt) else (n, s1)) = (n, s1) := by
      split
      · rename_i h
        have h5 : s1 = none := by
          rcases h with h | h
          · simpa using h
          · exact absurd h h2
        rw [hz h5, h5]
      · rfl
    rw [he]
    clear he hz
    have h3 : ¬ most < 0 := by omega
    have h4 : ¬ most < n := by omega
    clear h2
    go_enter Try.func50, Try.ntmps50
    go_wp2_with fail
    refine K.out.mono ?_
    rintro e w1 ⟨rfl, hR1⟩
    have HR1 := Lib.hid hR1
    clear hR1
    go_wp2
    go_ret
    exact ⟨rfl, HR1.out⟩
end Go.Proofs.Ythojipjleajajaa

/- gavelref01.Reader: rows. -/
namespace Go.Proofs.Ythojipjleajajaa
open Go Go.RowKit Go.Gv

theorem RefRRow_any (r : Nat) (most : Int) (v : Value) (s : RSt) (w : World) (hR : Rr 73 w r v s) (hm : -9223372036854775808 ≤ most ∧ most ≤ 9223372036854775807) (hlen : (s.getD []).length ≤ 1000000000) :
    Calls Try.prog 43 #[.pointer (some ⟨r, 0, none⟩), .int .i64 most] w fun e w' => ∃ v', e = .returned v' ∧ OwnB w' v' (rRow most s).1 ∧ Fresh w v' ∧ RrTo 73 w r v (rRow most s).2 w' := by
  have key := RefRInt_any r most v s w hR hm
  have hl2 := rInt_len most s
  have hn := rInt_le most s
  have hrow : rRow most s = rTake (rInt most s).1 (rInt most s).2 := rfl
  rw [hrow]
  clear hrow
  generalize rInt most s = res at *
  obtain ⟨n, s1⟩ := res
  dsimp only at *
  have hn9 : (n : Int) ≤ 9223372036854775807 := by omega
  have K := Lib.hid key
  have HL := Lib.hid (rTake_len n s1)
  clear key hn hm
  by_cases h : (s1.getD []).length < n
  · have hs : rTake n s1 = ([], none) := by
      cases s1 with
      | none => rfl
      | some l => simp at h; simp [rTake, h]
    have HS := Lib.hid hs
    clear hs
    go_enter Try.func43, Try.ntmps43
    go_wp2_with fail
    refine K.out.mono ?_
    rintro e w1 ⟨rfl, v1, hR1, hm1, hb1⟩
    have HM1 := Lib.hid hm1
    have HB1 := Lib.hid hb1
    have c0 : w1.cell? ⟨r, 0, none⟩ = some v1 := (hR1.1.cell 0).trans rfl
    have HF := Lib.hid (RefFail_any r v1 s1 w1 hR1)
    obtain ⟨ao, cap, rfl, hlc, hcm⟩ := hR1.2.1.shape
    clear hR1 hm1 hb1 hl2
    generalize hs1 : (s1.getD []).length = m at *
    have hd : (m : Int) < n := by omega
    have HS1 := Lib.hid hs1
    clear hs1
    go_wp2_with fail
    refine HF.out.mono ?_
    rintro e w2 ⟨rfl, hR2⟩
    have HR2 := Lib.hid hR2
    clear hR2
    go_wp2
    go_ret
    rw [HS.out]
    exact ⟨_, rfl, OwnB.nil _, (fun g hg => by cases hg), RrTo.trans (s1 := s1) HM1.out (by rw [HS1.out]; exact HB1.out) HR2.out (by simp)⟩
  · have hs : rTake n s1 = ((s1.getD []).take n, s1.map (List.drop n)) := by
      cases s1 with
      | none => simp [rTake]
      | some l => simp at h; simp [rTake, h]
    have HS := Lib.hid hs
    clear hs
    have hgd : (s1.map (List.drop n)).getD [] = (s1.getD []).drop n := by cases s1 <;> simp
    have hns : s1.isNone = (s1.map (List.drop n)).isNone := by cases s1 <;> rfl
    have HGD := Lib.hid hgd
    have HNS := Lib.hid hns
    clear hgd hns
    go_enter Try.func43, Try.ntmps43
    go_wp2_with fail
    refine K.out.mono ?_
    rintro e w1 ⟨rfl, v1, hR1, hm1, hb1⟩
    have HM1 := Lib.hid hm1
    have HB1 := Lib.hid hb1
    clear hm1 hb1
    have c0 : w1.cell? ⟨r, 0, none⟩ = some v1 := (hR1.1.cell 0).trans rfl
    have f0 := hR1.1.frozen 0
    have hlt := hR1.1.lt
    obtain ⟨hc, hr, hap⟩ := hR1
    have HC := Lib.hid hc
    have HAP0 := Lib.hid hap
    clear hc
    generalize hl : s1.getD [] = l at *
    have HL1 := Lib.hid hl
    clear hl
    obtain ⟨ao, cap, rfl, hlc, hcm⟩ := hr.shape
    rw [maxLen_val] at hcm
    have hup := hr.upto n (by omega)
    have Hroom := Lib.hid (show ([] : List Int).length + (l.take n).length ≤ Room by simp; unfold Room; omega)
    have HUP := Lib.hid hup
    have HR := Lib.hid hr
    have el : (l.take n).length = n := by simp; omega
    have EL := Lib.hid el
    have hd : ¬ (l.length : Int) < n := by omega
    have hnl : n ≤ l.length := by omega
    clear hup hr hap el hl2 hlen
    go_wp2_with (at_builtin; go_must (refine wpList_appB rfl (.const (.slice none 0 0)) (.tmp 24) rfl rfl (OwnB.nil _) (new := l.take n) rfl HUP.out Hroom.out ?_))
    intro ao1 cap1 w2 happ
    have hm : Mod (fun _ => False) w1 w2 := happ.2.1.mono (fun k _ hk => by simp [Value.ownBlock] at hk)
    have hc1 := HC.out.mod hm id
    have c1 : w2.cell? ⟨r, 0, none⟩ = some (.slice ao l.length cap) := (hc1.cell 0).trans rfl
    have f1 := hc1.frozen 0
    have HA := Lib.hid happ
    have HM := Lib.hid hm
    clear happ hm hc1
    go_wp2
    all_goals go_ret
    · obtain ⟨h1, _, h3⟩ := HA.out
      rw [HS.out]
      have hcap : cap = n := by assumption
      subst hcap
      have HR2 := HR.out.tail_at cap (by omega) rfl
      have hT := Rr_tail HC.out (by rw [HL1.out]; exact HAP0.out) (s2 := s1.map (List.drop cap)) (by rw [HGD.out]; exact HR2) (fun h => by rw [HGD.out] at h; simp at h; omega) HM.out (by rw [HGD.out, HL1.out]; simp) HNS.out
      refine ⟨.slice ao1 cap cap1, rfl, ?_, ?_, RrTo.trans (s1 := s1) HM1.out (by rw [HL1.out]; exact HB1.out) hT (by rw [HGD.out, HL1.out]; simp)⟩
      · refine Own.other h1 ?_ _
        intro g hg e
        rcases h3 with h3 | ⟨k, h3, hk⟩
        · rw [h3] at hg; cases hg
        · rw [h3] at hg; simp at hg; simp only at e; omega
      · intro g hg
        have := HM1.out.size
        rcases h3 with h3 | ⟨k, h3, hk⟩
        · rw [h3] at hg; cases hg
        · rw [h3] at hg; simp at hg; omega
    · obtain ⟨h1, _, h3⟩ := HA.out
      rw [HS.out]
      have hcap : ¬ cap = n := by assumption
      have HR2 := HR.out.tail_in n (by omega) hcap
      have hT := Rr_tail HC.out (by rw [HL1.out]; exact HAP0.out) (s2 := s1.map (List.drop n)) (by rw [HGD.out]; exact HR2) (fun _ => ownBlock_map _ _ _ _ _ _) HM.out (by rw [HGD.out, HL1.out]; simp) HNS.out
      refine ⟨.slice ao1 n cap1, rfl, ?_, ?_, RrTo.trans (s1 := s1) HM1.out (by rw [HL1.out]; exact HB1.out) hT (by rw [HGD.out, HL1.out]; simp)⟩
      · refine Own.other h1 ?_ _
        intro g hg e
        rcases h3 with h3 | ⟨k, h3, hk⟩
        · rw [h3] at hg; cases hg
        · rw [h3] at hg; simp at hg; simp only at e; omega
      · intro g hg
        have := HM1.out.size
        rcases h3 with h3 | ⟨k, h3, hk⟩
        · rw [h3] at hg; cases hg
        · rw [h3] at hg; simp at hg; omega

end Go.Proofs.Ythojipjleajajaa

/- gavelref01.Reader: hashes. -/
namespace Go.Proofs.Ythojipjleajajaa
open Go Go.RowKit Go.Gv

section
variable {R : Nat → Prop} {r : Nat} {s : RSt} {w : World}
theorem rTake_bd2 (n : Nat) (s : RSt) : (rTake n s).1.length ≤ (s.getD []).length := by
  cases s with
  | none => simp
  | some l => simp only [rTake]; split <;> simp; omega
theorem RefRRow_R {most : Int} {N : Nat} (hR : RrR 73 R w r s) (hm : -9223372036854775808 ≤ most ∧ most ≤ 9223372036854775807) (hl : (s.getD []).length ≤ N) (hN : N ≤ 1000000) :
    Calls Try.prog 43 #[.pointer (some ⟨r, 0, none⟩), .int .i64 most] w fun e w' => ∃ v', e = .returned v' ∧ OwR (New w w') N w' v' (rRow most s).1 ∧ RrR 73 R w' r (rRow most s).2 ∧ Mod R w w' := by
  obtain ⟨v, h1, h2, h3⟩ := hR
  refine (RefRRow_any r most v s w h1 hm (by omega)).mono fun _ _ ⟨v', he, ho, hf, h⟩ => ⟨v', he, OwR_of _ ho hf ?_, RrTo_R h2 h3 (rRow_len most s) h⟩
  have := rTake_bd2 (rInt most s).1 (rInt most s).2
  have := rInt_len most s
  show (rTake _ _).1.length ≤ _
  omega
end
end Go.Proofs.Ythojipjleajajaa

/- The document's log: Open. -/
namespace Go.Proofs.Ythojipjleajajaa
open Go Go.RowKit Go.Gv

/-- the document's log -/
def RlR (R : Nat → Prop) (w : World) (x p : Nat) (rs : List (List Int)) : Prop :=
  ∃ v, Cs w x #[.pointer (some ⟨p, 0, none⟩), v] 56 ∧ R x ∧ OwS RwR 22 (fun k => R k ∧ k ≠ x) (fun k => R k ∧ k ≠ x) w v rs
section
variable {R R' S : Nat → Prop} {w w' : World} {x p : Nat} {rs : List (List Int)}
theorem RlR.mod (h : RlR R w x p rs) (hm : Mod S w w') (hs : ∀ k, R k → S k → False) : RlR R w' x p rs := by
  obtain ⟨v, h1, h2, h3⟩ := h
  exact ⟨v, h1.mod hm (hs x h2), h2, h3.mod hm (fun k hk => hs k hk.1) (fun k hk => hs k hk.1)⟩
theorem RlR.widen (h : RlR R w x p rs) (hs : ∀ k, R k → R' k) : RlR R' w x p rs := by
  obtain ⟨v, h1, h2, h3⟩ := h
  exact ⟨v, h1, hs x h2, h3.widen (fun k hk => ⟨hs k hk.1, hk.2⟩) (fun k hk => ⟨hs k hk.1, hk.2⟩)⟩
end
theorem RRow_Q {R : Nat → Prop} {r : Nat} {w : World} {b rest : List Int} (h : RrR 73 R w r (some (encR b ++ rest))) (hb : b.length ≤ 65536) (hl : (encR b ++ rest).length ≤ 900000) :
    Calls Try.prog 43 #[.pointer (some ⟨r, 0, none⟩), .int .i64 65536] w fun e w' => ∃ v', e = .returned v' ∧ OwR (New w w') 900000 w' v' b ∧ RrR 73 R w' r (some rest) ∧ Mod R w w' := by
  have K := RefRRow_R (most := 65536) (N := 900000) h (by decide) hl (by decide)
  rw [rRow_encR hb] at K
  exact K
theorem RRow_stuck {R : Nat → Prop} {r : Nat} {w : World} {l : List Int} (h : RrR 73 R w r (some l)) (hs : (rRow 65536 (some l)).2 = none) (hl : l.length ≤ 900000) :
    Calls Try.prog 43 #[.pointer (some ⟨r, 0, none⟩), .int .i64 65536] w fun e w' => ∃ v', e = .returned v' ∧ OwR (New w w') 900000 w' v' (rRow 65536 (some l)).1 ∧ RrR 73 R w' r none ∧ Mod R w w' := by
  have K := RefRRow_R (most := 65536) (N := 900000) h (by decide) hl (by decide)
  rw [hs] at K
  exact K
/-- a reader's cells -/
theorem RrR.cells {R : Nat → Prop} {r : Nat} {w : World} {s : RSt} (h : RrR 73 R w r s) : ∃ (ao : Option Addr) (cap : Nat), Cs w r #[.slice ao (s.getD []).length cap, .bool s.isNone] 73 := by
  obtain ⟨v, h1, h2, h3⟩ := h
  obtain ⟨ao, cap, rfl, _⟩ := h1.2.1.shape
  exact ⟨ao, cap, h1.1⟩
theorem RrR.make {R R' : Nat → Prop} {r N : Nat} {w : World} {ao : Option Addr} {n cap : Nat} {bs : List Int} (hc : Cs w r #[.slice ao n cap, .bool false] 73) (hb : OwR R N w (.slice ao n cap) bs) (hr : R' r) (hs : ∀ k, R k → R' k ∧ k ≠ r) : RrR 73 R' w r (some bs) :=
  ⟨.slice ao n cap, ⟨hc, hb.rd.1, fun h0 g hg e => (hs g (hb.2.1 g hg)).2 e⟩, hr, fun h0 g hg => (hs g (hb.2.1 g hg)).1⟩
set_option maxHeartbeats 8000000 in
theorem ROpen_Q {R : Nat → Prop} {N p sy : Nat} {bs : List Int} {rs : List (List Int)} {w : World} (h : RkR R N w p ⟨bs, sy, 0, false, false⟩) (hB : ∀ k, R k → k < w.heap.size) (hN : N ≤ 900000) (hP : Parse bs rs) :
    Calls Try.prog 24 #[.pointer (some ⟨p, 0, none⟩)] w fun e w' => ∃ x, e = .returned (.tuple #[.pointer (some ⟨x, 0, none⟩), .int .i64 0]) ∧ RlR (New w w') w' x p rs ∧ RkR R N w' p ⟨rowsE rs, (rowsE rs).length, 0, false, false⟩ ∧ Mod R w w' := by
  obtain ⟨hf, tl, hbs, hst⟩ := hP
  have HDK := Lib.hid h
  have HBR := Lib.hid hB
  have HF := Lib.hid hf
  have HST := Lib.hid hst
  have HBS := Lib.hid hbs
  have hll : bs.length = (rowsE rs).length + tl.length := by rw [hbs, List.length_append]
  have hbN : bs.length ≤ N := h.len
  clear h hB hf hst hbs
  obtain ⟨Q, aob, capb, fb, hk⟩ := RkR.open HDK.out
  have HK := Lib.hid hk
  have HRD := hid (show Cs w p #[.slice aob bs.length capb, .int .i64 (sy : Nat), .bool false, .bool false, .int .i64 fb] 47 from hk.kc)
  have HRB := hid ((show OwR Q N w (.slice aob bs.length capb) bs from hk.ko).widen (M := 900000) (fun _ h => h) hN)
  have HBQ := hid (fun k (h : Q k) => HBR.out k (hk.kq k h).1)
  have hsyb : sy ≤ bs.length := hk.ks
  have hpl := hk.kc.lt
  clear hk
  go_enter Try.func24, Try.ntmps24
  go_upto_region 1 with (fail)
  have HM0 := hid (Mod.refl (fun k => (R k)) w)
  go_upto_region 1 with (fail)
  refine wp_region_U 86 [10, 11, 12, 13] [0, 1, 2, 3] (fun a0 HA0 => ?_)
  have oe0 := ev HA0 0 rfl
  refine QSeq.pure rfl _ (fun E => ex_move rfl (E.v oe0)) ?_
  refine QSeq.pure rfl (.pointer (some ⟨p, 0, none⟩)) (fun E => ex_nil rfl (E.d 0 0)) ?_
  refine QSeq.pure rfl (.pointer (some ⟨p, 2, none⟩)) (fun E => ex_field rfl Try.underlying47 rfl (by kernel_rfl) (E.d 1 0)) ?_
  refine QSeq.pure rfl _ (fun E => ex_load1 rfl Try.underlying4 rfl (E.d 2 0) (Cs.lit1 HRD.out rfl)) ?_
  refine QSeq.nil (t' := [_, _, _, _]) rfl ?_
  obtain rfl := HA0.out
  clear HA0 oe0
  simp only [pz, Act.put, List.setIfInBounds_toArray, List.set_cons_zero, List.set_cons_succ]
  go_upto_region 3 with (fail)
  refine wp_region_U 86 [14, 15, 16, 4] [0, 1, 2, 3] (fun a0 HA0 => ?_)
  have oe0 := ev HA0 0 rfl
  refine QSeq.pure rfl _ (fun E => ex_move rfl (E.v oe0)) ?_
  refine QSeq.go fun act E => ?_
  refine qc_run rfl (wanted_none rfl) (v := .agg #[Value.pointer (some ⟨p, 0, none⟩), Value.slice none 0 0]) (ex_build rfl (z := [.pointer none, .slice none 0 0]) (places := [(0, 1), (1, 1)]) (by kernel_rfl) (parts := [(0, .pointer (some ⟨p, 0, none⟩))]) (by simp only [List.map_toArray, List.map_cons, List.map_nil, show act.eval (.tmp 14) = .pointer (some ⟨p, 0, none⟩) from (E.d 0 0)]; try rfl) (r := [Value.pointer (some ⟨p, 0, none⟩), Value.slice none 0 0]) (by rfl)) ?_
  clear act E
  refine QSeq.go fun act E => ?_
  refine qc_box rfl (wanted_none rfl) rfl (vs := [Value.pointer (some ⟨p, 0, none⟩), Value.slice none 0 0]) (by rw [show act.eval (.tmp 15) = _ from (E.d 1 0)]; rfl) ?_
  intro u3_2 qwl hm
  have zl3_2 := qwl.lt
  have Hx1 := hid qwl
  have zu3_2 := hm.size
  have Cx2 := hid (show Mod (fun _ => False) w u3_2 from hm)
  clear hm
  clear act E qwl
  refine QSeq.pure rfl _ (fun E => ex_assign rfl (E.d 2 0)) ?_
  refine QSeq.nil (t' := [_, _, _, _]) rfl ?_
  obtain rfl := HA0.out
  clear HA0 oe0
  simp only [pz, Act.put, List.setIfInBounds_toArray, List.set_cons_zero, List.set_cons_succ]
  have HNB := hid (show OwR (fun k => New w w k) 900000 u3_2 (.slice none 0 0) [] from ⟨Own.nil _ _ _ _, (fun g h => by cases h), Nat.zero_le _⟩)
  go_upto_region 4 with (fail)
  refine wp_region_U 86 [17, 18, 19, 20, 21, 22, 23, 5] [0, 1, 2, 3, 4, 5, 6, 7] (fun a0 HA0 => ?_)
  have oe0 := ev HA0 0 rfl
  refine QSeq.pure rfl _ (fun E => ex_move rfl (E.v oe0)) ?_
  refine QSeq.pure rfl (.pointer (some ⟨p, 0, none⟩)) (fun E => ex_nil rfl (E.d 0 0)) ?_
  refine QSeq.pure rfl (.pointer (some ⟨p, 0, none⟩)) (fun E => ex_field rfl Try.underlying47 rfl (by kernel_rfl) (E.d 1 0)) ?_
  refine QSeq.pure rfl _ (fun E => ex_load1 rfl Try.underlying22 rfl (E.d 2 0) (Cs.lit1 (HRD.out.mod Cx2.out (fun h => h)) rfl)) ?_
  refine QSeq.go fun act E => ?_
  refine qc_appR rfl (wanted_none rfl) rfl rfl (E.d 3 0) HNB.out (HRB.out.mod Cx2.out (fun _ _ h => h)).rd (by rw [List.nil_append]; omega) ?_
  intro ao1 cap1 u4_4 qnb hm
  have Hx3 := hid (qnb.widen (R' := (fun k => (New w w k) ∨ (New u3_2 u4_4 k))) (fun _ h => h) (Nat.le_refl _))
  have zu4_4 := hm.size
  have Cx4 := hid (show Mod (fun k => (New w w k)) u3_2 u4_4 from hm)
  clear hm
  clear act E qnb HNB
  refine QSeq.go fun act E => ?_
  refine qc_run rfl (wanted_none rfl) (v := .agg #[Value.slice ao1 (([] : List Int).length + bs.length) cap1, .bool false]) (ex_build rfl (z := [.slice none 0 0, .bool false]) (places := [(0, 1), (1, 1)]) (by kernel_rfl) (parts := [(0, .slice ao1 (([] : List Int).length + bs.length) cap1)]) (by simp only [List.map_toArray, List.map_cons, List.map_nil, show act.eval (.tmp 21) = .slice ao1 (([] : List Int).length + bs.length) cap1 from (E.d 4 0)]; try rfl) (r := [Value.slice ao1 (([] : List Int).length + bs.length) cap1, .bool false]) (by rfl)) ?_
  clear act E
  refine QSeq.go fun act E => ?_
  refine qc_box rfl (wanted_none rfl) rfl (vs := [Value.slice ao1 (([] : List Int).length + bs.length) cap1, .bool false]) (by rw [show act.eval (.tmp 22) = _ from (E.d 5 0)]; rfl) ?_
  intro u4_6 qbx hm
  have zl4_6 := qbx.lt
  have Hx5 := hid qbx
  have zu4_6 := hm.size
  have HMu4_6 := hid hm
  have Cx6 := hid (Cx4.out.goE hm)
  clear hm Cx4
  clear act E qbx
  refine QSeq.pure rfl _ (fun E => ex_assign rfl (E.d 6 0)) ?_
  have Hx7 := hid (Hx3.out.mod HMu4_6.out (fun _ _ h => h))
  clear Hx3 HMu4_6
  refine QSeq.nil (t' := [_, _, _, _, _, _, _, _]) rfl ?_
  obtain rfl := HA0.out
  clear HA0 oe0
  simp only [pz, Act.put, List.setIfInBounds_toArray, List.set_cons_zero, List.set_cons_succ]
  go_upto_region 5 with (fail)
  refine wp_region_U 86 [6] [0] (fun a0 HA0 => ?_)
  refine QSeq.pure rfl (.int .i64 0) (fun E => ex_assign rfl rfl) ?_
  refine QSeq.nil (t' := [_]) rfl ?_
  obtain rfl := HA0.out
  clear HA0
  simp only [pz, Act.put, List.setIfInBounds_toArray, List.set_cons_zero, List.set_cons_succ]
  have hsr := RrR.make (R' := (fun k => (k = u4_4.heap.size) ∨ (New w w k) ∨ (New u3_2 u4_4 k))) Hx5.out Hx7.out (Or.inl rfl) (by intro k h1; rcases h1 with h1 | h1 <;> first | exact ⟨Or.inr (Or.inl h1), by omega⟩ | exact ⟨Or.inr (Or.inr h1), by omega⟩)
  rw [List.nil_append, HBS.out] at hsr
  have HRR := Lib.hid hsr
  clear hsr
  clear Hx5
  clear Hx7
  clear HRB
  go_wp2
  go_loopw [6] (fun te wr => ∃ (dn td : List (List Int)) (v : Value), rs = dn ++ td ∧ te = .int .i64 ((rowsE dn).length : Nat) ∧ u4_6.heap.size ≤ wr.heap.size ∧ RkR R N wr p ⟨bs, sy, 0, false, false⟩ ∧ Cs wr p #[.slice aob bs.length capb, .int .i64 (sy : Nat), .bool false, .bool false, .int .i64 fb] 47 ∧ Cs wr (w.heap.size) #[Value.pointer (some ⟨p, 0, none⟩), v] 56 ∧ OwS RwR 22 (fun b => u4_6.heap.size ≤ b ∧ b < wr.heap.size) (fun b => u4_6.heap.size ≤ b ∧ b < wr.heap.size) wr v dn ∧ RrR 73 (fun k => (k = u4_4.heap.size) ∨ (New w w k) ∨ (New u3_2 u4_4 k)) wr (u4_4.heap.size) (some (rowsE td ++ tl)) ∧ Mod R w wr) (fun te _ => bs.length - (intOf te).toNat)
  case atStart => exact ⟨[], rs, .slice none 0 0, rfl, rfl, Nat.le_refl _, ((HDK.out.mod Cx2.out (fun _ _ h => h)).mod Cx6.out (sN HBR)), ((HRD.out.mod Cx2.out (fun h => h)).mod Cx6.out (by intro h2; omega)), (Hx1.out.mod Cx6.out (by intro h2; omega)), OwS.nil _ _ _ _ _, HRR.out, ((HM0.out.trans Cx2.out (fun _ _ h => h.elim)).trans Cx6.out (by intro k h1 h2; first | exact h2 | omega))⟩
  case round =>
    obtain ⟨dn, td, v, hrs, rfl, hz, hd, hcd, hc, ho, hr, hm⟩ := hrel
    obtain ⟨wl, rfl⟩ : ∃ x, x = wr := ⟨_, rfl⟩
    obtain ⟨aol, capl, rfl⟩ := ho.shape
    have HDL := Lib.hid hd
    have HCD := Lib.hid hcd
    have HCL := Lib.hid hc
    have HOL := Lib.hid ho
    have HRL := Lib.hid hr
    have HML := Lib.hid hm
    have HRS := Lib.hid hrs
    have hlr : (rowsE rs).length = (rowsE dn).length + (rowsE td).length := by rw [hrs]; unfold rowsE; rw [List.flatMap_append, List.length_append]
    clear hd hcd hc ho hr hm hrs HDK HRD HM0 Hx1 HRR
    cases td with
    | cons b td =>
      have hb := HF.out b (by rw [HRS.out]; simp)
      have hlb : (rowsE (b :: td)).length = (encR b).length + (rowsE td).length := by rw [rowsE_cons, List.length_append]
      have hbp := encR_pos b
      have hla : (rowsE (b :: td) ++ tl).length = (rowsE (b :: td)).length + tl.length := List.length_append
      have hla2 : (rowsE td ++ tl).length = (rowsE td).length + tl.length := List.length_append
      have hla3 : (encR b ++ (rowsE td ++ tl)).length = (encR b).length + (rowsE td ++ tl).length := List.length_append
      have hln : (rowsE (dn ++ [b])).length = (rowsE dn).length + (encR b).length := by rw [rowsE_snoc, List.length_append]
      obtain ⟨aor1, capr1, hrc⟩ := RrR.cells HRL.out
      have HRC1 := hid (show Cs wl (u4_4.heap.size) #[.slice aor1 (rowsE (b :: td) ++ tl).length capr1, .bool false] 73 from hrc)
      clear hrc
      obtain ⟨ln1, hln1⟩ : ∃ n, n = (rowsE (b :: td) ++ tl).length := ⟨_, rfl⟩
      rw [← hln1] at HRC1
      go_upto_region 6 with (fail)
      refine wp_region_U 86 [24, 25, 26, 27, 28, 29] [0, 1, 2, 3, 4, 5] (fun a0 HA0 => ?_)
      have oe5 := ev HA0 5 rfl
      refine QSeq.pure rfl _ (fun E => ex_move rfl (E.v oe5)) ?_
      refine QSeq.pure rfl (.pointer (some ⟨u4_4.heap.size, 0, none⟩)) (fun E => ex_nil rfl (E.d 0 0)) ?_
      refine QSeq.pure rfl (.pointer (some ⟨u4_4.heap.size, 0, none⟩)) (fun E => ex_field rfl Try.underlying73 rfl (by kernel_rfl) (E.d 1 0)) ?_
      refine QSeq.pure rfl _ (fun E => ex_load1 rfl Try.underlying22 rfl (E.d 2 0) (Cs.lit1 HRC1.out rfl)) ?_
      refine QSeq.pure rfl (.int .i64 ln1) (fun E => ex_lenS rfl (E.d 3 0) Try.underlying22) ?_
      refine QSeq.pure rfl (.bool true) (fun E => ex_binE rfl (E.d 4 0) rfl (guard_ints _ _ _ _ _ _) (run_gtr_i _ _ _ Try.underlying3) (congrArg Value.bool (decide_eq_true (by omega)))) ?_
      refine QSeq.nil (t' := [_, _, _, _, _, _]) rfl ?_
      obtain rfl := HA0.out
      clear HA0 oe5
      simp only [pz, Act.put, List.setIfInBounds_toArray, List.set_cons_zero, List.set_cons_succ]
      clear HRC1
      have hq := HRL.out
      rw [rowsE_cons, List.append_assoc] at hq
      have HQR := Lib.hid hq
      clear hq
      go_upto_region 7 with (fail)
      refine wp_region_U 86 [30, 31, 7] [0, 1, 2] (fun a0 HA0 => ?_)
      have oe5 := ev HA0 5 rfl
      refine QSeq.pure rfl _ (fun E => ex_move rfl (E.v oe5)) ?_
      refine QSeq.call rfl rfl Try.func43 (RRow_Q HQR.out hb (by omega)) (fun E => args2 (E.d 0 0) rfl) ?_
      rintro e u7_1 ⟨vb, rfl, qel, qrr, hm⟩
      obtain ⟨ao_b, cap_b, rfl⟩ := qel.shape
      refine ⟨_, rfl, ?_⟩
      have Hx8 := hid qel
      have Hx9 := hid qrr
      have zu7_1 := hm.size
      have Cx10 := hid (show Mod (fun k => (k = u4_4.heap.size) ∨ (New w w k) ∨ (New u3_2 u4_4 k)) wl u7_1 from hm)
      clear hm
      clear qel qrr HQR
      refine QSeq.pure rfl _ (fun E => ex_assign rfl (E.d 1 0)) ?_
      refine QSeq.nil (t' := [_, _, _]) rfl ?_
      obtain rfl := HA0.out
      clear HA0 oe5
      simp only [pz, Act.put, List.setIfInBounds_toArray, List.set_cons_zero, List.set_cons_succ]
      obtain ⟨aor2, capr2, hrc⟩ := RrR.cells Hx9.out
      have HRC2 := hid (show Cs u7_1 (u4_4.heap.size) #[.slice aor2 (rowsE td ++ tl).length capr2, .bool false] 73 from hrc)
      clear hrc
      obtain ⟨ln2, hln2⟩ : ∃ n, n = (rowsE td ++ tl).length := ⟨_, rfl⟩
      rw [← hln2] at HRC2
      go_upto_region 8 with (fail)
      refine wp_region_U 86 [32, 33, 34, 35] [0, 1, 2, 3] (fun a0 HA0 => ?_)
      have oe5 := ev HA0 5 rfl
      refine QSeq.pure rfl _ (fun E => ex_move rfl (E.v oe5)) ?_
      refine QSeq.pure rfl (.pointer (some ⟨u4_4.heap.size, 0, none⟩)) (fun E => ex_nil rfl (E.d 0 0)) ?_
      refine QSeq.pure rfl (.pointer (some ⟨u4_4.heap.size, 1, none⟩)) (fun E => ex_field rfl Try.underlying73 rfl (by kernel_rfl) (E.d 1 0)) ?_
      refine QSeq.pure rfl _ (fun E => ex_load1 rfl Try.underlying4 rfl (E.d 2 0) (Cs.lit1 HRC2.out rfl)) ?_
      refine QSeq.nil (t' := [_, _, _, _]) rfl ?_
      obtain rfl := HA0.out
      clear HA0 oe5
      simp only [pz, Act.put, List.setIfInBounds_toArray, List.set_cons_zero, List.set_cons_succ]
      have hdl : dn.length ≤ 900000 := by have := rowsE_count dn; omega
      go_upto_region 9 with (fail)
      refine wp_region_U 86 [36, 37, 38, 39, 40, 41, 42, 43, 44, 45, 96] [0, 1, 2, 3, 4, 5, 6, 7, 8, 9, 10] (fun a0 HA0 => ?_)
      have oe4 := ev HA0 4 rfl
      have oe7 := ev HA0 7 rfl
      refine QSeq.pure rfl _ (fun E => ex_move rfl (E.v oe4)) ?_
      refine QSeq.pure rfl _ (fun E => ex_move rfl (E.v oe4)) ?_
      refine QSeq.pure rfl (.pointer (some ⟨w.heap.size, 0, none⟩)) (fun E => ex_nil rfl (E.d 1 0)) ?_
      refine QSeq.pure rfl (.pointer (some ⟨w.heap.size, 1, none⟩)) (fun E => ex_field rfl Try.underlying56 rfl (by kernel_rfl) (E.d 2 0)) ?_
      refine QSeq.pure rfl _ (fun E => ex_load1 rfl Try.underlying33 rfl (E.d 3 0) (Cs.lit1 (HCL.out.mod Cx10.out (by intro h2; omega)) rfl)) ?_
      refine QSeq.pure rfl _ (fun E => ex_move rfl (E.v oe7)) ?_
      refine QSeq.go fun act E => ?_
      have ea41 : act.eval (.tmp 41) = .slice ao_b b.length cap_b := (E.d 5 0)
      refine qc_rows rfl (wanted_none rfl) rfl Try.underlying33 (by decide) (C := #[.slice ao_b b.length cap_b]) (by simp only [List.map_toArray, List.map_cons, List.map_nil, ea41]; kernel_rfl) ?_
      intro u9_6 qrow hm
      have zl9_6 := qrow.lt
      have Hx11 := hid qrow
      have zu9_6 := hm.size
      have Cx12 := hid (show Mod (fun _ => False) u7_1 u9_6 from hm)
      clear hm
      clear act E qrow ea41
      refine QSeq.go fun act E => ?_
      refine qc_appS (A := RwR) (e := 22) rfl (wanted_none rfl) rfl (.slice none 0 0) 24 Try.underlying33 info_Rw (by rfl) (of_decide_eq_true (by kernel_rfl)) (E.d 4 2) (E.d 6 0) (((HOL.out.mod Cx10.out (by intro k h1 h2; omega) (by intro k h1 h2; omega)).mod Cx12.out (fun _ _ h => h) (fun _ _ h => h))) (RdS.single (R := (fun k => (New wl u7_1 k) ∨ (k = u7_1.heap.size))) Hx11.out (RwR.mk ((Hx8.out.mod Cx12.out (fun _ _ h => h)).rd.widen (R' := (fun k => (New wl u7_1 k) ∨ (k = u7_1.heap.size))) (fun k h1 => Or.inl h1) (Nat.le_refl _)) (by omega)) (by right; rfl)) (by intro k h1 h2; omega) (by have h9 : dn.length ≤ 900000 := hdl; simp only [List.length_cons, List.length_nil]; omega) (by have h9 : dn.length ≤ 900000 := hdl; rw [maxLen_val]; simp only [List.length_cons, List.length_nil]; omega) ?_
      intro ao6 cap6 u9_7 qout hm
      have Hx13 := hid (qout.widen (R' := (fun k => (New u4_6 wl k) ∨ (New u9_6 u9_7 k))) (E' := (fun k => (New u4_6 wl k) ∨ (New wl u7_1 k) ∨ (k = u7_1.heap.size))) (fun _ h => h) (by intro k h1; rcases h1 with h1 | (h1 | h1) <;> first | omega | exact h1.elim | exact Or.inl h1 | exact Or.inr (Or.inl h1) | exact Or.inr (Or.inr (h1))))
      have zu9_7 := hm.size
      have HMu9_7 := hid hm
      have Cx14 := hid (Mod.goS (S' := (fun k => (New u4_6 wl k))) Cx12.out hm (fun _ h => h.elim) (by intro k h0 h2; exact h2))
      clear hm Cx12
      clear act E qout HOL
      refine QSeq.pure rfl (.pointer (some ⟨w.heap.size, 0, none⟩)) (fun E => ex_nil rfl (E.d 0 7)) ?_
      refine QSeq.pure rfl (.pointer (some ⟨w.heap.size, 1, none⟩)) (fun E => ex_field rfl Try.underlying56 rfl (by kernel_rfl) (E.d 8 0)) ?_
      refine QSeq.go fun act E => ?_
      refine qc_store rfl (wanted_none rfl) rfl ((HCL.out.mod Cx10.out (by intro h2; omega)).mod Cx14.out (by intro h2; omega)) (off := 1) (vs := [Value.slice ao6 (dn.length + 1) cap6]) (by kernel_rfl) one1 (by simp) (E.d 9 0) (ec (E.d 7 2)) ?_
      intro u9_10 qc0 hm
      have qwl := qc0.eqv (b := #[Value.pointer (some ⟨p, 0, none⟩), Value.slice ao6 (dn.length + 1) cap6]) rfl
      clear qc0
      have Hx15 := hid qwl
      have zu9_10 := hm.size
      have HMu9_10 := hid hm
      have Cx16 := hid (Mod.goS (S' := (fun k => (New u4_6 wl k) ∨ (k = w.heap.size))) Cx14.out hm (fun _ h => Or.inl h) (by intro k h0 h2; exact Or.inr (h2)))
      clear hm Cx14
      clear act E qwl HCL
      have Hx17 := hid (Hx13.out.mod HMu9_10.out (by intro k h1 h2; omega) (by intro k h1 h2; omega))
      have Hx18 := hid ((Hx11.out.mod HMu9_7.out (by intro h2; omega)).mod HMu9_10.out (by intro h2; omega))
      clear Hx13 Hx11 HMu9_7 HMu9_10
      refine QSeq.nil (t' := [_, _, _, _, _, _, _, _, _, _, _]) rfl ?_
      obtain rfl := HA0.out
      clear HA0 oe4 oe7
      simp only [pz, Act.put, List.setIfInBounds_toArray, List.set_cons_zero, List.set_cons_succ, List.set_nil]
      have hw9 : IntKind.i64.wrap (((bs.length : Nat) : Int) - ((ln2 : Nat) : Int)) = (((rowsE (dn ++ [b])).length : Nat) : Int) := i64_eq (by omega) (by omega) (by omega)
      go_upto_region 10 with (fail)
      generalize ha0 : Act.mk _ _ = a0
      have oe0 : a0.eval (.tmp 0) = .pointer (some ⟨p, 0, none⟩) := by rw [← ha0]; rfl
      have oe5 : a0.eval (.tmp 5) = .pointer (some ⟨u4_4.heap.size, 0, none⟩) := by rw [← ha0]; rfl
      have hsz0 : a0.tmps.size = 86 := by rw [← ha0]; rfl
      have HA0 := hid ha0
      clear ha0
      refine wp_region_Q0 86 hsz0 [46, 47, 48, 49, 50, 51, 52, 53, 54, 55, 56, 6] [qi (.pointer (some ⟨p, 0, none⟩)), qi (.pointer (some ⟨p, 0, none⟩)), qi (.pointer (some ⟨p, 0, none⟩)), qi (.slice aob bs.length capb), qi (.int .i64 bs.length), qi (.pointer (some ⟨u4_4.heap.size, 0, none⟩)), qi (.pointer (some ⟨u4_4.heap.size, 0, none⟩)), qi (.pointer (some ⟨u4_4.heap.size, 0, none⟩)), qi (.slice aor2 ln2 capr2), qi (.int .i64 ln2), qi (.int .i64 (((rowsE (dn ++ [b])).length : Nat) : Int)), qi (.int .i64 (((rowsE (dn ++ [b])).length : Nat) : Int))] ⟨qi_stable, qi_stable, qi_stable, qi_stable, qi_stable, qi_stable, qi_stable, qi_stable, qi_stable, qi_stable, qi_stable, qi_stable, trivial⟩ [] ⟨?_, ?_, ?_, ?_, ?_, ?_, ?_, ?_, ?_, ?_, ?_, ?_, trivial⟩ ?_
      · exact stq (fun E => ex_move rfl (E.v oe0))
      · exact stq (fun E => ex_nil rfl (E.d 0))
      · exact stq (fun E => ex_field rfl Try.underlying47 rfl (by kernel_rfl) (E.d 1))
      · exact stq (fun E => ex_load1 rfl Try.underlying22 rfl (E.d 2) (Cs.lit1 (((HCD.out.mod Cx10.out (by intro h2; omega)).mod Cx16.out (by intro h2; omega)).mod E.m.old (by intro h2; omega)) rfl))
      · exact stq (fun E => ex_lenS rfl (E.d 3) Try.underlying22)
      · exact stq (fun E => ex_move rfl (E.v oe5))
      · exact stq (fun E => ex_nil rfl (E.d 5))
      · exact stq (fun E => ex_field rfl Try.underlying73 rfl (by kernel_rfl) (E.d 6))
      · exact stq (fun E => ex_load1 rfl Try.underlying22 rfl (E.d 7) (Cs.lit1 ((HRC2.out.mod Cx16.out (by intro h2; omega)).mod E.m.old (by intro h2; omega)) rfl))
      · exact stq (fun E => ex_lenS rfl (E.d 8) Try.underlying22)
      · exact stq (fun E => ex_binE rfl (E.d 4) (E.d 9) (guard_ints _ _ _ _ _ _) (run_sub_i _ _ Try.underlying3) (congrArg (Value.int .i64) hw9))
      · exact stq (fun E => ex_assign rfl (E.d 10))
      intro u10_0 hr
      have zu10_0 := hr.size
      have Cx19 := hid (hr.new (S := (fun _ => False)))
      clear hr
      refine QChain.nil fun vs hl hzz hrows hne => ?_
      obtain ⟨Z, hYZ, hZb, hV⟩ := hzz
      have f0 := fvi hV hl 0
      have f4 := fvi hV hl 4
      have f5 := fvi hV hl 5
      have f9 := fvi hV hl 9
      have f10 := fvi hV hl 10
      have f11 := fvi hV hl 11
      rw [show vs = [gw vs 0, gw vs 1, gw vs 2, gw vs 3, gw vs 4, gw vs 5, gw vs 6, gw vs 7, gw vs 8, gw vs 9, gw vs 10, gw vs 11] from (gw_eta hl).trans rfl]
      have ha0 := HA0.out
      subst ha0
      clear HA0 hV hYZ hZb hsz0 hrows hne oe0 oe5
      simp only [putAll, Act.put, List.setIfInBounds_toArray, List.set_cons_zero, List.set_cons_succ, f0, f4, f5, f9, f10, f11]
      clear hl f0 f4 f5 f9 f10 f11
      clear HRC2
      go_wp2
      go_roundw
      case rel => exact ⟨dn ++ [b], td, _, by rw [HRS.out, List.append_assoc]; rfl, rfl, by omega, (((HDL.out.mod Cx10.out (by intro k h1 h2; have hb := HBR.out k h1; omega)).mod Cx16.out (by intro k h1 h2; have hb := HBR.out k h1; omega)).mod Cx19.out (fun _ _ h => h)), (((HCD.out.mod Cx10.out (by intro h2; omega)).mod Cx16.out (by intro h2; omega)).mod Cx19.out (fun h => h)), (Hx15.out.mod Cx19.out (fun h => h)), (Hx17.out.mod Cx19.out (fun _ _ h => h) (fun _ _ h => h)).widen (by intro b h1; (try dsimp only at h1 ⊢); omega) (by intro b h1; (try dsimp only at h1 ⊢); omega), ((Hx9.out.mod Cx16.out (by intro k h1 h2; omega)).mod Cx19.out (fun _ _ h => h)), (((HML.out.trans Cx10.out (by intro k h1 h2; rcases h2 with h2 | h2 | h2 <;> first | exact h2 | omega)).trans Cx16.out (by intro k h1 h2; rcases h2 with h2 | h2 <;> first | exact h2 | omega)).trans Cx19.out (fun _ _ h => h.elim))⟩
      case measure => simp only [intOf, Int.toNat_natCast]; omega
    | nil =>
      have hdr := HRS.out
      rw [List.append_nil] at hdr
      subst hdr
      clear hlr
      by_cases ht0 : tl.length = 0
      · skip
        have hla : (rowsE [] ++ tl).length = tl.length := rfl
        obtain ⟨aor1, capr1, hrc⟩ := RrR.cells HRL.out
        have HRC1 := hid (show Cs wl (u4_4.heap.size) #[.slice aor1 (rowsE [] ++ tl).length capr1, .bool false] 73 from hrc)
        clear hrc
        obtain ⟨ln1, hln1⟩ : ∃ n, n = (rowsE [] ++ tl).length := ⟨_, rfl⟩
        rw [← hln1] at HRC1
        go_upto_region 6 with (fail)
        refine wp_region_U 86 [24, 25, 26, 27, 28, 29] [0, 1, 2, 3, 4, 5] (fun a0 HA0 => ?_)
        have oe5 := ev HA0 5 rfl
        refine QSeq.pure rfl _ (fun E => ex_move rfl (E.v oe5)) ?_
        refine QSeq.pure rfl (.pointer (some ⟨u4_4.heap.size, 0, none⟩)) (fun E => ex_nil rfl (E.d 0 0)) ?_
        refine QSeq.pure rfl (.pointer (some ⟨u4_4.heap.size, 0, none⟩)) (fun E => ex_field rfl Try.underlying73 rfl (by kernel_rfl) (E.d 1 0)) ?_
        refine QSeq.pure rfl _ (fun E => ex_load1 rfl Try.underlying22 rfl (E.d 2 0) (Cs.lit1 HRC1.out rfl)) ?_
        refine QSeq.pure rfl (.int .i64 ln1) (fun E => ex_lenS rfl (E.d 3 0) Try.underlying22) ?_
        refine QSeq.pure rfl (.bool false) (fun E => ex_binE rfl (E.d 4 0) rfl (guard_ints _ _ _ _ _ _) (run_gtr_i _ _ _ Try.underlying3) (congrArg Value.bool (decide_eq_false (by omega)))) ?_
        refine QSeq.nil (t' := [_, _, _, _, _, _]) rfl ?_
        obtain rfl := HA0.out
        clear HA0 oe5
        simp only [pz, Act.put, List.setIfInBounds_toArray, List.set_cons_zero, List.set_cons_succ]
        clear HRC1
        go_upto_region 11 with (fail)
        refine wp_region_U 86 [57, 58, 59, 60, 61, 62, 63] [0, 1, 2, 3, 4, 5, 6] (fun a0 HA0 => ?_)
        have oe0 := ev HA0 0 rfl
        have oe6 := ev HA0 6 rfl
        refine QSeq.pure rfl _ (fun E => ex_move rfl (E.v oe6)) ?_
        refine QSeq.pure rfl _ (fun E => ex_move rfl (E.v oe0)) ?_
        refine QSeq.pure rfl (.pointer (some ⟨p, 0, none⟩)) (fun E => ex_nil rfl (E.d 1 0)) ?_
        refine QSeq.pure rfl (.pointer (some ⟨p, 0, none⟩)) (fun E => ex_field rfl Try.underlying47 rfl (by kernel_rfl) (E.d 2 0)) ?_
        refine QSeq.pure rfl _ (fun E => ex_load1 rfl Try.underlying22 rfl (E.d 3 0) (Cs.lit1 HCD.out rfl)) ?_
        refine QSeq.pure rfl (.int .i64 bs.length) (fun E => ex_lenS rfl (E.d 4 0) Try.underlying22) ?_
        refine QSeq.pure rfl (.bool false) (fun E => ex_binE rfl (E.d 0 5) (E.d 5 0) (guard_ints _ _ _ _ _ _) (run_lss_i _ _ _ Try.underlying3) (congrArg Value.bool (decide_eq_false (by omega)))) ?_
        refine QSeq.nil (t' := [_, _, _, _, _, _, _]) rfl ?_
        obtain rfl := HA0.out
        clear HA0 oe0 oe6
        simp only [pz, Act.put, List.setIfInBounds_toArray, List.set_cons_zero, List.set_cons_succ]
        have HT := hid (show bs = rowsE rs by rw [HBS.out]; have h9 : tl.length = 0 := (by omega); rw [List.eq_nil_of_length_eq_zero h9, List.append_nil])
        have hlb2 : bs.length = (rowsE rs).length := by rw [HT.out]
        by_cases hss : sy < bs.length
        · skip
          go_upto_region 15 with (fail)
          generalize ha0 : Act.mk _ _ = a0
          have oe0 : a0.eval (.tmp 0) = .pointer (some ⟨p, 0, none⟩) := by rw [← ha0]; rfl
          have hsz0 : a0.tmps.size = 86 := by rw [← ha0]; rfl
          have HA0 := hid ha0
          clear ha0
          refine wp_region_Q0 86 hsz0 [70, 71, 72, 73, 74, 75, 76, 77, 78, 79] [qi (.pointer (some ⟨p, 0, none⟩)), qi (.pointer (some ⟨p, 0, none⟩)), qi (.pointer (some ⟨p, 1, none⟩)), qi (.int .i64 ((sy : Nat) : Int)), qi (.pointer (some ⟨p, 0, none⟩)), qi (.pointer (some ⟨p, 0, none⟩)), qi (.pointer (some ⟨p, 0, none⟩)), qi (.slice aob bs.length capb), qi (.int .i64 bs.length), qi (.bool true)] ⟨qi_stable, qi_stable, qi_stable, qi_stable, qi_stable, qi_stable, qi_stable, qi_stable, qi_stable, qi_stable, trivial⟩ [] ⟨?_, ?_, ?_, ?_, ?_, ?_, ?_, ?_, ?_, ?_, trivial⟩ ?_
          · exact stq (fun E => ex_move rfl (E.v oe0))
          · exact stq (fun E => ex_nil rfl (E.d 0))
          · exact stq (fun E => ex_field rfl Try.underlying47 rfl (by kernel_rfl) (E.d 1))
          · exact stq (fun E => ex_load1 rfl Try.underlying3 rfl (E.d 2) (Cs.lit1 (HCD.out.mod E.m.old (by intro h2; omega)) rfl))
          · exact stq (fun E => ex_move rfl (E.v oe0))
          · exact stq (fun E => ex_nil rfl (E.d 4))
          · exact stq (fun E => ex_field rfl Try.underlying47 rfl (by kernel_rfl) (E.d 5))
          · exact stq (fun E => ex_load1 rfl Try.underlying22 rfl (E.d 6) (Cs.lit1 (HCD.out.mod E.m.old (by intro h2; omega)) rfl))
          · exact stq (fun E => ex_lenS rfl (E.d 7) Try.underlying22)
          · exact stq (fun E => ex_binE rfl (E.d 3) (E.d 8) (guard_ints _ _ _ _ _ _) (run_lss_i _ _ _ Try.underlying3) (congrArg Value.bool (decide_eq_true (by omega))))
          intro u15_0 hr
          have zu15_0 := hr.size
          have Cx20 := hid (hr.new (S := (fun _ => False)))
          clear hr
          refine QChain.nil fun vs hl hzz hrows hne => ?_
          obtain ⟨Z, hYZ, hZb, hV⟩ := hzz
          have f0 := fvi hV hl 0
          have f4 := fvi hV hl 4
          have f8 := fvi hV hl 8
          have f9 := fvi hV hl 9
          rw [show vs = [gw vs 0, gw vs 1, gw vs 2, gw vs 3, gw vs 4, gw vs 5, gw vs 6, gw vs 7, gw vs 8, gw vs 9] from (gw_eta hl).trans rfl]
          have ha0 := HA0.out
          subst ha0
          clear HA0 hV hYZ hZb hsz0 hrows hne oe0
          simp only [putAll, Act.put, List.setIfInBounds_toArray, List.set_cons_zero, List.set_cons_succ, f0, f4, f8, f9]
          clear hl f0 f4 f8 f9
          clear HCD
          go_upto_region 16 with (fail)
          refine wp_region_U 86 [80, 81, 9] [0, 1, 2] (fun a0 HA0 => ?_)
          have oe0 := ev HA0 0 rfl
          refine QSeq.pure rfl _ (fun E => ex_move rfl (E.v oe0)) ?_
          refine QSeq.call rfl rfl Try.func45 (RSync_C (HDL.out.mod Cx20.out (fun _ _ h => h)) (by intro k h1; have hb := HBR.out k h1; omega) rfl hN) (fun E => args1 (E.d 0 0)) ?_
          rintro e u16_1 ⟨rfl, qdk, hm⟩
          refine ⟨_, rfl, ?_⟩
          have Hx21 := hid qdk
          have zu16_1 := hm.size
          have Cx22 := hid (show Mod (fun k => (R k)) u15_0 u16_1 from hm)
          clear hm
          clear qdk HDL
          refine QSeq.pure rfl _ (fun E => ex_assign rfl (E.d 1 0)) ?_
          refine QSeq.nil (t' := [_, _, _]) rfl ?_
          obtain rfl := HA0.out
          clear HA0 oe0
          simp only [pz, Act.put, List.setIfInBounds_toArray, List.set_cons_zero, List.set_cons_succ]
          go_upto_region 17 with (fail)
          refine wp_region_U 86 [82, 83] [0, 1] (fun a0 HA0 => ?_)
          have oe9 := ev HA0 9 rfl
          refine QSeq.pure rfl _ (fun E => ex_move rfl (E.v oe9)) ?_
          refine QSeq.pure rfl (.bool false) (fun E => ex_binE rfl (E.d 0 0) rfl (guard_ints _ _ _ _ _ _) (run_neq_i _ _ _ Try.underlying26) (congrArg Value.bool (ne_ff rfl))) ?_
          refine QSeq.nil (t' := [_, _]) rfl ?_
          obtain rfl := HA0.out
          clear HA0 oe9
          simp only [pz, Act.put, List.setIfInBounds_toArray, List.set_cons_zero, List.set_cons_succ]
          have hqx := Hx21.out
          rw [show dSync ⟨bs, sy, 0, false, false⟩ = ⟨bs, bs.length, 0, false, false⟩ from rfl] at hqx
          have HQX := Lib.hid hqx
          clear hqx
          go_upto_region 19 with (fail)
          refine wp_region_U 86 [85, 2, 3] [0, 1, 2] (fun a0 HA0 => ?_)
          have oe4 := ev HA0 4 rfl
          refine QSeq.pure rfl _ (fun E => ex_move rfl (E.v oe4)) ?_
          refine QSeq.pure rfl _ (fun E => ex_assign rfl (E.d 0 0)) ?_
          refine QSeq.pure rfl (.int .i64 0) (fun E => ex_assign rfl rfl) ?_
          refine QSeq.nil (t' := [_, _, _]) rfl ?_
          obtain rfl := HA0.out
          clear HA0 oe4
          simp only [pz, Act.put, List.setIfInBounds_toArray, List.set_cons_zero, List.set_cons_succ]
          go_wp2
          have hq := HQX.out
          rw [HT.out] at hq
          exact bodyPost_ret (results_tmp2 rfl _ _ _) rfl ⟨_, rfl, ⟨_, ((HCL.out.mod Cx20.out (fun h => h)).mod Cx22.out (by intro h2; first | omega | (have hb := HBR.out _ h2; omega))), ⟨by omega, by have := (((HCL.out.mod Cx20.out (fun h => h)).mod Cx22.out (by intro h2; first | omega | (have hb := HBR.out _ h2; omega)))).lt; omega⟩, ((HOL.out.mod Cx20.out (fun _ _ h => h) (fun _ _ h => h)).mod Cx22.out (by intro k h1 h2; have hb := HBR.out k h2; omega) (by intro k h1 h2; have hb := HBR.out k h2; omega)).widen (by intro b h1; (try dsimp only at h1 ⊢); unfold New; omega) (by intro b h1; (try dsimp only at h1 ⊢); unfold New; omega)⟩, hq, ((HML.out.trans Cx20.out (fun _ _ h => h.elim)).trans Cx22.out (fun _ _ h => h))⟩
        · skip
          go_upto_region 15 with (fail)
          generalize ha0 : Act.mk _ _ = a0
          have oe0 : a0.eval (.tmp 0) = .pointer (some ⟨p, 0, none⟩) := by rw [← ha0]; rfl
          have hsz0 : a0.tmps.size = 86 := by rw [← ha0]; rfl
          have HA0 := hid ha0
          clear ha0
          refine wp_region_Q0 86 hsz0 [70, 71, 72, 73, 74, 75, 76, 77, 78, 79] [qi (.pointer (some ⟨p, 0, none⟩)), qi (.pointer (some ⟨p, 0, none⟩)), qi (.pointer (some ⟨p, 1, none⟩)), qi (.int .i64 ((sy : Nat) : Int)), qi (.pointer (some ⟨p, 0, none⟩)), qi (.pointer (some ⟨p, 0, none⟩)), qi (.pointer (some ⟨p, 0, none⟩)), qi (.slice aob bs.length capb), qi (.int .i64 bs.length), qi (.bool false)] ⟨qi_stable, qi_stable, qi_stable, qi_stable, qi_stable, qi_stable, qi_stable, qi_stable, qi_stable, qi_stable, trivial⟩ [] ⟨?_, ?_, ?_, ?_, ?_, ?_, ?_, ?_, ?_, ?_, trivial⟩ ?_
          · exact stq (fun E => ex_move rfl (E.v oe0))
          · exact stq (fun E => ex_nil rfl (E.d 0))
          · exact stq (fun E => ex_field rfl Try.underlying47 rfl (by kernel_rfl) (E.d 1))
          · exact stq (fun E => ex_load1 rfl Try.underlying3 rfl (E.d 2) (Cs.lit1 (HCD.out.mod E.m.old (by intro h2; omega)) rfl))
          · exact stq (fun E => ex_move rfl (E.v oe0))
          · exact stq (fun E => ex_nil rfl (E.d 4))
          · exact stq (fun E => ex_field rfl Try.underlying47 rfl (by kernel_rfl) (E.d 5))
          · exact stq (fun E => ex_load1 rfl Try.underlying22 rfl (E.d 6) (Cs.lit1 (HCD.out.mod E.m.old (by intro h2; omega)) rfl))
          · exact stq (fun E => ex_lenS rfl (E.d 7) Try.underlying22)
          · exact stq (fun E => ex_binE rfl (E.d 3) (E.d 8) (guard_ints _ _ _ _ _ _) (run_lss_i _ _ _ Try.underlying3) (congrArg Value.bool (decide_eq_false (by omega))))
          intro u15_0 hr
          have zu15_0 := hr.size
          have Cx23 := hid (hr.new (S := (fun _ => False)))
          clear hr
          refine QChain.nil fun vs hl hzz hrows hne => ?_
          obtain ⟨Z, hYZ, hZb, hV⟩ := hzz
          have f0 := fvi hV hl 0
          have f4 := fvi hV hl 4
          have f8 := fvi hV hl 8
          have f9 := fvi hV hl 9
          rw [show vs = [gw vs 0, gw vs 1, gw vs 2, gw vs 3, gw vs 4, gw vs 5, gw vs 6, gw vs 7, gw vs 8, gw vs 9] from (gw_eta hl).trans rfl]
          have ha0 := HA0.out
          subst ha0
          clear HA0 hV hYZ hZb hsz0 hrows hne oe0
          simp only [putAll, Act.put, List.setIfInBounds_toArray, List.set_cons_zero, List.set_cons_succ, f0, f4, f8, f9]
          clear hl f0 f4 f8 f9
          clear HCD
          go_upto_region 19 with (fail)
          refine wp_region_U 86 [85, 2, 3] [0, 1, 2] (fun a0 HA0 => ?_)
          have oe4 := ev HA0 4 rfl
          refine QSeq.pure rfl _ (fun E => ex_move rfl (E.v oe4)) ?_
          refine QSeq.pure rfl _ (fun E => ex_assign rfl (E.d 0 0)) ?_
          refine QSeq.pure rfl (.int .i64 0) (fun E => ex_assign rfl rfl) ?_
          refine QSeq.nil (t' := [_, _, _]) rfl ?_
          obtain rfl := HA0.out
          clear HA0 oe4
          simp only [pz, Act.put, List.setIfInBounds_toArray, List.set_cons_zero, List.set_cons_succ]
          go_wp2
          have hq := (HDL.out.mod Cx23.out (fun _ _ h => h))
          rw [HT.out] at hq
          rw [show sy = (rowsE rs).length by omega] at hq
          exact bodyPost_ret (results_tmp2 rfl _ _ _) rfl ⟨_, rfl, ⟨_, (HCL.out.mod Cx23.out (fun h => h)), ⟨by omega, by have := ((HCL.out.mod Cx23.out (fun h => h))).lt; omega⟩, (HOL.out.mod Cx23.out (fun _ _ h => h) (fun _ _ h => h)).widen (by intro b h1; (try dsimp only at h1 ⊢); unfold New; omega) (by intro b h1; (try dsimp only at h1 ⊢); unfold New; omega)⟩, hq, (HML.out.trans Cx23.out (fun _ _ h => h.elim))⟩
      · skip
        have hla : (rowsE [] ++ tl).length = tl.length := rfl
        obtain ⟨aor1, capr1, hrc⟩ := RrR.cells HRL.out
        have HRC1 := hid (show Cs wl (u4_4.heap.size) #[.slice aor1 (rowsE [] ++ tl).length capr1, .bool false] 73 from hrc)
        clear hrc
        obtain ⟨ln1, hln1⟩ : ∃ n, n = (rowsE [] ++ tl).length := ⟨_, rfl⟩
        rw [← hln1] at HRC1
        go_upto_region 6 with (fail)
        refine wp_region_U 86 [24, 25, 26, 27, 28, 29] [0, 1, 2, 3, 4, 5] (fun a0 HA0 => ?_)
        have oe5 := ev HA0 5 rfl
        refine QSeq.pure rfl _ (fun E => ex_move rfl (E.v oe5)) ?_
        refine QSeq.pure rfl (.pointer (some ⟨u4_4.heap.size, 0, none⟩)) (fun E => ex_nil rfl (E.d 0 0)) ?_
        refine QSeq.pure rfl (.pointer (some ⟨u4_4.heap.size, 0, none⟩)) (fun E => ex_field rfl Try.underlying73 rfl (by kernel_rfl) (E.d 1 0)) ?_
        refine QSeq.pure rfl _ (fun E => ex_load1 rfl Try.underlying22 rfl (E.d 2 0) (Cs.lit1 HRC1.out rfl)) ?_
        refine QSeq.pure rfl (.int .i64 ln1) (fun E => ex_lenS rfl (E.d 3 0) Try.underlying22) ?_
        refine QSeq.pure rfl (.bool true) (fun E => ex_binE rfl (E.d 4 0) rfl (guard_ints _ _ _ _ _ _) (run_gtr_i _ _ _ Try.underlying3) (congrArg Value.bool (decide_eq_true (by omega)))) ?_
        refine QSeq.nil (t' := [_, _, _, _, _, _]) rfl ?_
        obtain rfl := HA0.out
        clear HA0 oe5
        simp only [pz, Act.put, List.setIfInBounds_toArray, List.set_cons_zero, List.set_cons_succ]
        clear HRC1
        have HSK := hid (show (rRow 65536 (some (rowsE [] ++ tl))).2 = none from HST.out.resolve_left (fun e => ht0 (by rw [e]; rfl)))
        clear HST
        go_upto_region 7 with (fail)
        refine wp_region_U 86 [30, 31, 7] [0, 1, 2] (fun a0 HA0 => ?_)
        have oe5 := ev HA0 5 rfl
        refine QSeq.pure rfl _ (fun E => ex_move rfl (E.v oe5)) ?_
        refine QSeq.call rfl rfl Try.func43 (RRow_stuck HRL.out HSK.out (by omega)) (fun E => args2 (E.d 0 0) rfl) ?_
        rintro e u7_1 ⟨vb, rfl, qel, qrr, hm⟩
        obtain ⟨ao_b, cap_b, rfl⟩ := qel.shape
        refine ⟨_, rfl, ?_⟩
        have Hx24 := hid qel
        have Hx25 := hid qrr
        have zu7_1 := hm.size
        have Cx26 := hid (show Mod (fun k => (k = u4_4.heap.size) ∨ (New w w k) ∨ (New u3_2 u4_4 k)) wl u7_1 from hm)
        clear hm
        clear qel qrr HRL
        refine QSeq.pure rfl _ (fun E => ex_assign rfl (E.d 1 0)) ?_
        refine QSeq.nil (t' := [_, _, _]) rfl ?_
        obtain rfl := HA0.out
        clear HA0 oe5
        simp only [pz, Act.put, List.setIfInBounds_toArray, List.set_cons_zero, List.set_cons_succ]
        clear Hx24
        obtain ⟨aor2, capr2, hrc⟩ := RrR.cells Hx25.out
        have HRC2 := hid (show Cs u7_1 (u4_4.heap.size) #[.slice aor2 0 capr2, .bool true] 73 from hrc)
        clear hrc
        obtain ⟨ln2, hln2⟩ : ∃ n, n = 0 := ⟨_, rfl⟩
        rw [← hln2] at HRC2
        go_upto_region 8 with (fail)
        refine wp_region_U 86 [32, 33, 34, 35] [0, 1, 2, 3] (fun a0 HA0 => ?_)
        have oe5 := ev HA0 5 rfl
        refine QSeq.pure rfl _ (fun E => ex_move rfl (E.v oe5)) ?_
        refine QSeq.pure rfl (.pointer (some ⟨u4_4.heap.size, 0, none⟩)) (fun E => ex_nil rfl (E.d 0 0)) ?_
        refine QSeq.pure rfl (.pointer (some ⟨u4_4.heap.size, 1, none⟩)) (fun E => ex_field rfl Try.underlying73 rfl (by kernel_rfl) (E.d 1 0)) ?_
        refine QSeq.pure rfl _ (fun E => ex_load1 rfl Try.underlying4 rfl (E.d 2 0) (Cs.lit1 HRC2.out rfl)) ?_
        refine QSeq.nil (t' := [_, _, _, _]) rfl ?_
        obtain rfl := HA0.out
        clear HA0 oe5
        simp only [pz, Act.put, List.setIfInBounds_toArray, List.set_cons_zero, List.set_cons_succ]
        clear HRC2
        go_upto_region 11 with (fail)
        refine wp_region_U 86 [57, 58, 59, 60, 61, 62, 63] [0, 1, 2, 3, 4, 5, 6] (fun a0 HA0 => ?_)
        have oe0 := ev HA0 0 rfl
        have oe6 := ev HA0 6 rfl
        refine QSeq.pure rfl _ (fun E => ex_move rfl (E.v oe6)) ?_
        refine QSeq.pure rfl _ (fun E => ex_move rfl (E.v oe0)) ?_
        refine QSeq.pure rfl (.pointer (some ⟨p, 0, none⟩)) (fun E => ex_nil rfl (E.d 1 0)) ?_
        refine QSeq.pure rfl (.pointer (some ⟨p, 0, none⟩)) (fun E => ex_field rfl Try.underlying47 rfl (by kernel_rfl) (E.d 2 0)) ?_
        refine QSeq.pure rfl _ (fun E => ex_load1 rfl Try.underlying22 rfl (E.d 3 0) (Cs.lit1 (HCD.out.mod Cx26.out (by intro h2; omega)) rfl)) ?_
        refine QSeq.pure rfl (.int .i64 bs.length) (fun E => ex_lenS rfl (E.d 4 0) Try.underlying22) ?_
        refine QSeq.pure rfl (.bool true) (fun E => ex_binE rfl (E.d 0 5) (E.d 5 0) (guard_ints _ _ _ _ _ _) (run_lss_i _ _ _ Try.underlying3) (congrArg Value.bool (decide_eq_true (by omega)))) ?_
        refine QSeq.nil (t' := [_, _, _, _, _, _, _]) rfl ?_
        obtain rfl := HA0.out
        clear HA0 oe0 oe6
        simp only [pz, Act.put, List.setIfInBounds_toArray, List.set_cons_zero, List.set_cons_succ]
        clear HCD
        go_upto_region 12 with (fail)
        refine wp_region_U 86 [64, 65, 66, 8] [0, 1, 2, 3] (fun a0 HA0 => ?_)
        have oe0 := ev HA0 0 rfl
        have oe6 := ev HA0 6 rfl
        refine QSeq.pure rfl _ (fun E => ex_move rfl (E.v oe0)) ?_
        refine QSeq.pure rfl _ (fun E => ex_move rfl (E.v oe6)) ?_
        refine QSeq.call rfl rfl Try.func44 (RCut_Q (n := (rowsE rs).length) (HDL.out.mod Cx26.out (by intro k h1 h2; have hb := HBR.out k h1; omega)) (by intro k h1; have hb := HBR.out k h1; omega) (by omega) hN) (fun E => args2 (E.d 0 1) (E.d 1 0)) ?_
        rintro e u12_2 ⟨rfl, qdk, hm⟩
        refine ⟨_, rfl, ?_⟩
        have Hx27 := hid qdk
        have zu12_2 := hm.size
        have Cx28 := hid (show Mod (fun k => (R k)) u7_1 u12_2 from hm)
        clear hm
        clear qdk HDL
        refine QSeq.pure rfl _ (fun E => ex_assign rfl (E.d 2 0)) ?_
        refine QSeq.nil (t' := [_, _, _, _]) rfl ?_
        obtain rfl := HA0.out
        clear HA0 oe0 oe6
        simp only [pz, Act.put, List.setIfInBounds_toArray, List.set_cons_zero, List.set_cons_succ]
        go_upto_region 13 with (fail)
        refine wp_region_U 86 [67, 68] [0, 1] (fun a0 HA0 => ?_)
        have oe8 := ev HA0 8 rfl
        refine QSeq.pure rfl _ (fun E => ex_move rfl (E.v oe8)) ?_
        refine QSeq.pure rfl (.bool false) (fun E => ex_binE rfl (E.d 0 0) rfl (guard_ints _ _ _ _ _ _) (run_neq_i _ _ _ Try.underlying26) (congrArg Value.bool (ne_ff rfl))) ?_
        refine QSeq.nil (t' := [_, _]) rfl ?_
        obtain rfl := HA0.out
        clear HA0 oe8
        simp only [pz, Act.put, List.setIfInBounds_toArray, List.set_cons_zero, List.set_cons_succ]
        have hq := Hx27.out
        rw [show bs.take (rowsE rs).length = rowsE rs by rw [HBS.out]; exact List.take_left] at hq
        obtain ⟨sz, hsz⟩ : ∃ z, z = min sy (rowsE rs).length := ⟨_, rfl⟩
        rw [← hsz] at hq
        have HQ := Lib.hid hq
        clear hq
        have HT := hid (show rowsE rs = rowsE rs from rfl)
        obtain ⟨Q2, aob2, capb2, fb2, hk2⟩ := RkR.open HQ.out
        have HRD2 := hid (show Cs u12_2 p #[.slice aob2 (rowsE rs).length capb2, .int .i64 (sz : Nat), .bool false, .bool false, .int .i64 fb2] 47 from hk2.kc)
        clear hk2
        obtain ⟨lb, hlb⟩ : ∃ n, n = (rowsE rs).length := ⟨_, rfl⟩
        rw [← hlb] at HRD2
        have hlb2 : (rowsE rs).length = (rowsE rs).length := by rw [HT.out]
        by_cases hss : sz < (rowsE rs).length
        · skip
          go_upto_region 15 with (fail)
          generalize ha0 : Act.mk _ _ = a0
          have oe0 : a0.eval (.tmp 0) = .pointer (some ⟨p, 0, none⟩) := by rw [← ha0]; rfl
          have hsz0 : a0.tmps.size = 86 := by rw [← ha0]; rfl
          have HA0 := hid ha0
          clear ha0
          refine wp_region_Q0 86 hsz0 [70, 71, 72, 73, 74, 75, 76, 77, 78, 79] [qi (.pointer (some ⟨p, 0, none⟩)), qi (.pointer (some ⟨p, 0, none⟩)), qi (.pointer (some ⟨p, 1, none⟩)), qi (.int .i64 ((sz : Nat) : Int)), qi (.pointer (some ⟨p, 0, none⟩)), qi (.pointer (some ⟨p, 0, none⟩)), qi (.pointer (some ⟨p, 0, none⟩)), qi (.slice aob2 lb capb2), qi (.int .i64 lb), qi (.bool true)] ⟨qi_stable, qi_stable, qi_stable, qi_stable, qi_stable, qi_stable, qi_stable, qi_stable, qi_stable, qi_stable, trivial⟩ [] ⟨?_, ?_, ?_, ?_, ?_, ?_, ?_, ?_, ?_, ?_, trivial⟩ ?_
          · exact stq (fun E => ex_move rfl (E.v oe0))
          · exact stq (fun E => ex_nil rfl (E.d 0))
          · exact stq (fun E => ex_field rfl Try.underlying47 rfl (by kernel_rfl) (E.d 1))
          · exact stq (fun E => ex_load1 rfl Try.underlying3 rfl (E.d 2) (Cs.lit1 (HRD2.out.mod E.m.old (by intro h2; omega)) rfl))
          · exact stq (fun E => ex_move rfl (E.v oe0))
          · exact stq (fun E => ex_nil rfl (E.d 4))
          · exact stq (fun E => ex_field rfl Try.underlying47 rfl (by kernel_rfl) (E.d 5))
          · exact stq (fun E => ex_load1 rfl Try.underlying22 rfl (E.d 6) (Cs.lit1 (HRD2.out.mod E.m.old (by intro h2; omega)) rfl))
          · exact stq (fun E => ex_lenS rfl (E.d 7) Try.underlying22)
          · exact stq (fun E => ex_binE rfl (E.d 3) (E.d 8) (guard_ints _ _ _ _ _ _) (run_lss_i _ _ _ Try.underlying3) (congrArg Value.bool (decide_eq_true (by omega))))
          intro u15_0 hr
          have zu15_0 := hr.size
          have Cx29 := hid (hr.new (S := (fun _ => False)))
          clear hr
          refine QChain.nil fun vs hl hzz hrows hne => ?_
          obtain ⟨Z, hYZ, hZb, hV⟩ := hzz
          have f0 := fvi hV hl 0
          have f4 := fvi hV hl 4
          have f8 := fvi hV hl 8
          have f9 := fvi hV hl 9
          rw [show vs = [gw vs 0, gw vs 1, gw vs 2, gw vs 3, gw vs 4, gw vs 5, gw vs 6, gw vs 7, gw vs 8, gw vs 9] from (gw_eta hl).trans rfl]
          have ha0 := HA0.out
          subst ha0
          clear HA0 hV hYZ hZb hsz0 hrows hne oe0
          simp only [putAll, Act.put, List.setIfInBounds_toArray, List.set_cons_zero, List.set_cons_succ, f0, f4, f8, f9]
          clear hl f0 f4 f8 f9
          clear HRD2
          go_upto_region 16 with (fail)
          refine wp_region_U 86 [80, 81, 9] [0, 1, 2] (fun a0 HA0 => ?_)
          have oe0 := ev HA0 0 rfl
          refine QSeq.pure rfl _ (fun E => ex_move rfl (E.v oe0)) ?_
          refine QSeq.call rfl rfl Try.func45 (RSync_C (HQ.out.mod Cx29.out (fun _ _ h => h)) (by intro k h1; have hb := HBR.out k h1; omega) rfl hN) (fun E => args1 (E.d 0 0)) ?_
          rintro e u16_1 ⟨rfl, qdk, hm⟩
          refine ⟨_, rfl, ?_⟩
          have Hx30 := hid qdk
          have zu16_1 := hm.size
          have Cx31 := hid (show Mod (fun k => (R k)) u15_0 u16_1 from hm)
          clear hm
          clear qdk HQ
          refine QSeq.pure rfl _ (fun E => ex_assign rfl (E.d 1 0)) ?_
          refine QSeq.nil (t' := [_, _, _]) rfl ?_
          obtain rfl := HA0.out
          clear HA0 oe0
          simp only [pz, Act.put, List.setIfInBounds_toArray, List.set_cons_zero, List.set_cons_succ]
          go_upto_region 17 with (fail)
          refine wp_region_U 86 [82, 83] [0, 1] (fun a0 HA0 => ?_)
          have oe9 := ev HA0 9 rfl
          refine QSeq.pure rfl _ (fun E => ex_move rfl (E.v oe9)) ?_
          refine QSeq.pure rfl (.bool false) (fun E => ex_binE rfl (E.d 0 0) rfl (guard_ints _ _ _ _ _ _) (run_neq_i _ _ _ Try.underlying26) (congrArg Value.bool (ne_ff rfl))) ?_
          refine QSeq.nil (t' := [_, _]) rfl ?_
          obtain rfl := HA0.out
          clear HA0 oe9
          simp only [pz, Act.put, List.setIfInBounds_toArray, List.set_cons_zero, List.set_cons_succ]
          have hqx := Hx30.out
          rw [show dSync ⟨(rowsE rs), sz, 0, false, false⟩ = ⟨(rowsE rs), (rowsE rs).length, 0, false, false⟩ from rfl] at hqx
          have HQX := Lib.hid hqx
          clear hqx
          go_upto_region 19 with (fail)
          refine wp_region_U 86 [85, 2, 3] [0, 1, 2] (fun a0 HA0 => ?_)
          have oe4 := ev HA0 4 rfl
          refine QSeq.pure rfl _ (fun E => ex_move rfl (E.v oe4)) ?_
          refine QSeq.pure rfl _ (fun E => ex_assign rfl (E.d 0 0)) ?_
          refine QSeq.pure rfl (.int .i64 0) (fun E => ex_assign rfl rfl) ?_
          refine QSeq.nil (t' := [_, _, _]) rfl ?_
          obtain rfl := HA0.out
          clear HA0 oe4
          simp only [pz, Act.put, List.setIfInBounds_toArray, List.set_cons_zero, List.set_cons_succ]
          go_wp2
          have hq := HQX.out
          exact bodyPost_ret (results_tmp2 rfl _ _ _) rfl ⟨_, rfl, ⟨_, ((((HCL.out.mod Cx26.out (by intro h2; omega)).mod Cx28.out (by intro h2; first | omega | (have hb := HBR.out _ h2; omega))).mod Cx29.out (fun h => h)).mod Cx31.out (by intro h2; first | omega | (have hb := HBR.out _ h2; omega))), ⟨by omega, by have := (((((HCL.out.mod Cx26.out (by intro h2; omega)).mod Cx28.out (by intro h2; first | omega | (have hb := HBR.out _ h2; omega))).mod Cx29.out (fun h => h)).mod Cx31.out (by intro h2; first | omega | (have hb := HBR.out _ h2; omega)))).lt; omega⟩, ((((HOL.out.mod Cx26.out (by intro k h1 h2; omega) (by intro k h1 h2; omega)).mod Cx28.out (by intro k h1 h2; have hb := HBR.out k h2; omega) (by intro k h1 h2; have hb := HBR.out k h2; omega)).mod Cx29.out (fun _ _ h => h) (fun _ _ h => h)).mod Cx31.out (by intro k h1 h2; have hb := HBR.out k h2; omega) (by intro k h1 h2; have hb := HBR.out k h2; omega)).widen (by intro b h1; (try dsimp only at h1 ⊢); unfold New; omega) (by intro b h1; (try dsimp only at h1 ⊢); unfold New; omega)⟩, hq, ((((HML.out.trans Cx26.out (by intro k h1 h2; rcases h2 with h2 | h2 | h2 <;> first | exact h2 | omega)).trans Cx28.out (fun _ _ h => h)).trans Cx29.out (fun _ _ h => h.elim)).trans Cx31.out (fun _ _ h => h))⟩
        · skip
          go_upto_region 15 with (fail)
          generalize ha0 : Act.mk _ _ = a0
          have oe0 : a0.eval (.tmp 0) = .pointer (some ⟨p, 0, none⟩) := by rw [← ha0]; rfl
          have hsz0 : a0.tmps.size = 86 := by rw [← ha0]; rfl
          have HA0 := hid ha0
          clear ha0
          refine wp_region_Q0 86 hsz0 [70, 71, 72, 73, 74, 75, 76, 77, 78, 79] [qi (.pointer (some ⟨p, 0, none⟩)), qi (.pointer (some ⟨p, 0, none⟩)), qi (.pointer (some ⟨p, 1, none⟩)), qi (.int .i64 ((sz : Nat) : Int)), qi (.pointer (some ⟨p, 0, none⟩)), qi (.pointer (some ⟨p, 0, none⟩)), qi (.pointer (some ⟨p, 0, none⟩)), qi (.slice aob2 lb capb2), qi (.int .i64 lb), qi (.bool false)] ⟨qi_stable, qi_stable, qi_stable, qi_stable, qi_stable, qi_stable, qi_stable, qi_stable, qi_stable, qi_stable, trivial⟩ [] ⟨?_, ?_, ?_, ?_, ?_, ?_, ?_, ?_, ?_, ?_, trivial⟩ ?_
          · exact stq (fun E => ex_move rfl (E.v oe0))
          · exact stq (fun E => ex_nil rfl (E.d 0))
          · exact stq (fun E => ex_field rfl Try.underlying47 rfl (by kernel_rfl) (E.d 1))
          · exact stq (fun E => ex_load1 rfl Try.underlying3 rfl (E.d 2) (Cs.lit1 (HRD2.out.mod E.m.old (by intro h2; omega)) rfl))
          · exact stq (fun E => ex_move rfl (E.v oe0))
          · exact stq (fun E => ex_nil rfl (E.d 4))
          · exact stq (fun E => ex_field rfl Try.underlying47 rfl (by kernel_rfl) (E.d 5))
          · exact stq (fun E => ex_load1 rfl Try.underlying22 rfl (E.d 6) (Cs.lit1 (HRD2.out.mod E.m.old (by intro h2; omega)) rfl))
          · exact stq (fun E => ex_lenS rfl (E.d 7) Try.underlying22)
          · exact stq (fun E => ex_binE rfl (E.d 3) (E.d 8) (guard_ints _ _ _ _ _ _) (run_lss_i _ _ _ Try.underlying3) (congrArg Value.bool (decide_eq_false (by omega))))
          intro u15_0 hr
          have zu15_0 := hr.size
          have Cx32 := hid (hr.new (S := (fun _ => False)))
          clear hr
          refine QChain.nil fun vs hl hzz hrows hne => ?_
          obtain ⟨Z, hYZ, hZb, hV⟩ := hzz
          have f0 := fvi hV hl 0
          have f4 := fvi hV hl 4
          have f8 := fvi hV hl 8
          have f9 := fvi hV hl 9
          rw [show vs = [gw vs 0, gw vs 1, gw vs 2, gw vs 3, gw vs 4, gw vs 5, gw vs 6, gw vs 7, gw vs 8, gw vs 9] from (gw_eta hl).trans rfl]
          have ha0 := HA0.out
          subst ha0
          clear HA0 hV hYZ hZb hsz0 hrows hne oe0
          simp only [putAll, Act.put, List.setIfInBounds_toArray, List.set_cons_zero, List.set_cons_succ, f0, f4, f8, f9]
          clear hl f0 f4 f8 f9
          clear HRD2
          go_upto_region 19 with (fail)
          refine wp_region_U 86 [85, 2, 3] [0, 1, 2] (fun a0 HA0 => ?_)
          have oe4 := ev HA0 4 rfl
          refine QSeq.pure rfl _ (fun E => ex_move rfl (E.v oe4)) ?_
          refine QSeq.pure rfl _ (fun E => ex_assign rfl (E.d 0 0)) ?_
          refine QSeq.pure rfl (.int .i64 0) (fun E => ex_assign rfl rfl) ?_
          refine QSeq.nil (t' := [_, _, _]) rfl ?_
          obtain rfl := HA0.out
          clear HA0 oe4
          simp only [pz, Act.put, List.setIfInBounds_toArray, List.set_cons_zero, List.set_cons_succ]
          go_wp2
          have hq := (HQ.out.mod Cx32.out (fun _ _ h => h))
          rw [show sz = (rowsE rs).length by omega] at hq
          exact bodyPost_ret (results_tmp2 rfl _ _ _) rfl ⟨_, rfl, ⟨_, (((HCL.out.mod Cx26.out (by intro h2; omega)).mod Cx28.out (by intro h2; first | omega | (have hb := HBR.out _ h2; omega))).mod Cx32.out (fun h => h)), ⟨by omega, by have := ((((HCL.out.mod Cx26.out (by intro h2; omega)).mod Cx28.out (by intro h2; first | omega | (have hb := HBR.out _ h2; omega))).mod Cx32.out (fun h => h))).lt; omega⟩, (((HOL.out.mod Cx26.out (by intro k h1 h2; omega) (by intro k h1 h2; omega)).mod Cx28.out (by intro k h1 h2; have hb := HBR.out k h2; omega) (by intro k h1 h2; have hb := HBR.out k h2; omega)).mod Cx32.out (fun _ _ h => h) (fun _ _ h => h)).widen (by intro b h1; (try dsimp only at h1 ⊢); unfold New; omega) (by intro b h1; (try dsimp only at h1 ⊢); unfold New; omega)⟩, hq, (((HML.out.trans Cx26.out (by intro k h1 h2; rcases h2 with h2 | h2 | h2 <;> first | exact h2 | omega)).trans Cx28.out (fun _ _ h => h)).trans Cx32.out (fun _ _ h => h.elim))⟩
end Go.Proofs.Ythojipjleajajaa

/- The document's log: Put. -/
namespace Go.Proofs.Ythojipjleajajaa
open Go Go.RowKit Go.Gv

theorem RefRow_W {R : Nat → Prop} {M : Nat} {v : Value} {b : List Int} {w : World} (hr : RdR R M w v b) (hb : b.length ≤ 65536) :
    Calls Try.prog 46 #[v] w fun e w' => ∃ v', e = .returned v' ∧ OwR (New w w') 900000 w' v' (encR b) ∧ Mod (fun _ => False) w w' :=
  (RefRow_R (N := b.length) (⟨hr.1, hr.2.1, Nat.le_refl _⟩ : RdR R b.length w v b) (by omega)).mono fun e w' ⟨v', he, ho, hm⟩ => ⟨v', he, ho.widen (fun _ h => h) (by omega), hm⟩
def RPutTo (R1 R2 : Nat → Prop) (N : Nat) (w w' : World) (x p : Nat) (rs : List (List Int)) (s : DS) : Prop :=
  ∃ wm : World, w.heap.size ≤ wm.heap.size ∧ wm.heap.size ≤ w'.heap.size ∧ RkR (fun k => R2 k ∨ (w.heap.size ≤ k ∧ k < wm.heap.size)) N w' p s ∧ RlR (fun k => R1 k ∨ (wm.heap.size ≤ k ∧ k < w'.heap.size)) w' x p rs ∧ Mod (fun k => R1 k ∨ R2 k) w w'
set_option maxHeartbeats 4000000 in
theorem RPut_A {R1 R2 R3 : Nat → Prop} {N M x p : Nat} {rs : List (List Int)} {s : DS} {v : Value} {b : List Int} {w : World} (hw : RlR R1 w x p rs) (hd : RkR R2 N w p s) (hb : RdR R3 M w v b) (hB1 : ∀ k, R1 k → k < w.heap.size) (hB2 : ∀ k, R2 k → k < w.heap.size) (hB3 : ∀ k, R3 k → k < w.heap.size)
    (h12 : ∀ k, R1 k → R2 k → False) (h13 : ∀ k, R3 k → R1 k → False) (h23 : ∀ k, R3 k → R2 k → False) (hbl : b.length ≤ 65536) (hN : N ≤ 800000) (hrl : rs.length ≤ 900000) (hd1 : (dStep s).dead = true) :
    Calls Try.prog 29 #[.pointer (some ⟨x, 0, none⟩), v] w fun e w' => e = .returned (.int .i64 9) ∧ RPutTo R1 R2 (N + (encR b).length) w w' x p rs (dStep s) := by
  obtain ⟨v0, hc, hx, ho0⟩ := hw
  obtain ⟨Q1, hQ1, ho⟩ : ∃ Q : Nat → Prop, (∀ k, Q k → R1 k ∧ k ≠ x) ∧ OwS RwR 22 Q Q w v0 rs := ⟨_, fun _ h => h, ho0⟩
  obtain ⟨ao, cap, rfl⟩ := ho.shape
  obtain ⟨ab, cb, rfl⟩ := hb.shape
  have hxl := hc.lt
  have HWL := Lib.hid hc
  have HOL := Lib.hid ho
  have HQ1 := Lib.hid hQ1
  have HDK := Lib.hid hd
  have HB := Lib.hid hb
  have HBQ := hid (fun k (h : Q1 k) => hB1 k (hQ1 k h).1)
  have HB2 := Lib.hid hB2
  have HB3 := Lib.hid hB3
  have HQ2 := hid (fun k (h : Q1 k) => h12 k (hQ1 k h).1)
  have HQ3 := hid (fun k (h : Q1 k) (h3 : R3 k) => h13 k h3 (hQ1 k h).1)
  have H23 := hid (fun k (h : R2 k) (h3 : R3 k) => h23 k h3 h)
  have HX2 := hid (fun (h : R2 x) => h12 x hx h)
  have HXQ := hid (fun (h : Q1 x) => (hQ1 x h).2 rfl)
  have HX3 := hid (fun (h : R3 x) => h13 x h hx)
  have HX1 := Lib.hid hx
  have hel := encR_len (b := b) (by omega)
  have HB1 := Lib.hid hB1
  clear hc ho0 ho hQ1 hd hb hB1 hB2 hB3 h12 h13 h23 hx
  go_enter Try.func29, Try.ntmps29
  go_upto_region 1 with (fail)
  have HM0 := hid (Mod.refl (fun k => (k = x) ∨ (Q1 k) ∨ (R2 k)) w)
  go_upto_region 1 with (fail)
  refine wp_region_U 40 [7, 8, 9] [0, 1, 2] (fun a0 HA0 => ?_)
  have oe1 := ev HA0 1 rfl
  refine QSeq.pure rfl _ (fun E => ex_move rfl (E.v oe1)) ?_
  refine QSeq.pure rfl (.int .i64 b.length) (fun E => ex_lenS rfl (E.d 0 0) Try.underlying22) ?_
  refine QSeq.pure rfl (.bool false) (fun E => ex_binE rfl (E.d 1 0) rfl (guard_ints _ _ _ _ _ _) (run_gtr_i _ _ _ Try.underlying3) (congrArg Value.bool (decide_eq_false (by omega)))) ?_
  refine QSeq.nil (t' := [_, _, _]) rfl ?_
  obtain rfl := HA0.out
  clear HA0 oe1
  simp only [pz, Act.put, List.setIfInBounds_toArray, List.set_cons_zero, List.set_cons_succ]
  have HD1 := Lib.hid hd1
  clear hd1
  go_upto_region 3 with (fail)
  generalize ha0 : Act.mk _ _ = a0
  have oe0 : a0.eval (.tmp 0) = .pointer (some ⟨x, 0, none⟩) := by rw [← ha0]; rfl
  have oe1 : a0.eval (.tmp 1) = .slice ab b.length cb := by rw [← ha0]; rfl
  have hsz0 : a0.tmps.size = 40 := by rw [← ha0]; rfl
  have HA0 := hid ha0
  clear ha0
  refine wp_region_Q1 40 hsz0 [10, 11, 12, 13, 14, 15, 16, 5] (fun k => (R2 k)) (fun k j => (k = 1 ∧ ((R2 j)))) (fun _ _ h => h.2) [qi (.pointer (some ⟨x, 0, none⟩)), qi (.pointer (some ⟨x, 0, none⟩)), qi (.pointer (some ⟨x, 0, none⟩)), qi (.pointer (some ⟨p, 0, none⟩)), qi (.slice ab b.length cb), qv 0, qi (.int .i64 9), qi (.int .i64 9)] ⟨qi_stable, qi_stable, qi_stable, qi_stable, qi_stable, qv_stable, qi_stable, qi_stable, trivial⟩ [5, 6] ⟨?_, ?_, ?_, ?_, ?_, ?_, ?_, ?_, trivial⟩ ?_
  · exact stq (fun E => ex_move rfl (E.v oe0))
  · exact stq (fun E => ex_nil rfl (E.d 0))
  · exact stq (fun E => ex_field rfl Try.underlying56 rfl (by kernel_rfl) (E.d 1))
  · exact stq (fun E => ex_load1 rfl Try.underlying45 rfl (E.d 2) (Cs.lit1 (HWL.out.mod E.m (by intro h2; rcases h2 with ⟨h0, h2⟩ | h2 <;> first | omega | (have hb := HB2.out _ h2; omega) | exact HX2.out h2 | exact HXQ.out h2 | exact HX3.out h2)) rfl))
  · exact stq (fun E => ex_move rfl (E.v oe1))
  · exact stepq_chain rfl
  · exact stepq_chain rfl
  · exact stq (fun E => ex_assign rfl (E.d 6))
  intro u3_0 hr
  have zu3_0 := hr.size
  have Cx1 := hid (hr.new (S := (fun k => (R2 k))))
  have Hx2 := hid (HDK.out.mod hr (by intro k h1 h2; have hb := HB2.out k h1; omega))
  clear HDK
  clear hr
  refine QChain.go fun Z act E => ?_
  refine qc_callF (args := #[.slice ab b.length cb]) rfl (wanted_none rfl) rfl Try.func46 (args1 (E.d 4)) (RefRow_W (HB.out.mod Cx1.out (by intro k h1 h2; first | omega | (have hb := HB3.out k h1; omega) | (have hb := HB2.out k h2; omega) | exact HQ2.out k h1 h2 | exact HQ2.out k h2 h1 | exact HQ3.out k h1 h2 | exact HQ3.out k h2 h1 | exact H23.out k h1 h2 | exact H23.out k h2 h1 | (have hb := HB3.out k h1; have hb2 := HB2.out k h2; omega) | exact HX2.out (h2 ▸ h1) | exact HX2.out (h1 ▸ h2) | exact HXQ.out (h2 ▸ h1) | exact HXQ.out (h1 ▸ h2) | exact HX3.out (h2 ▸ h1) | exact HX3.out (h1 ▸ h2))) (by omega)) ?_
  rintro e u3_1a ⟨v_a1, rfl, qa1, hm⟩
  obtain ⟨ao_a1, cap_a1, rfl⟩ := qa1.shape
  have zu3_1a := hm.size
  refine ⟨_, rfl, hm.mono (fun _ _ h => h.elim), (fun _ => rfl), ?_⟩
  intro u3_1 hr
  have zu3_1 := hr.size
  have Hx3 := hid ((qa1.widen (R' := (fun k => (New u3_0 u3_1a k))) (fun _ h => h) (Nat.le_refl _)).mod hr (by intro k h1 h2; omega))
  have hmr := Mod.after hm hr
  have Hx4 := hid (Hx2.out.mod hmr (by intro k h1 h2; have hb := HB2.out k h1; omega))
  clear Hx2
  clear hmr
  have Cx5 := hid (Cx1.out.go hm hr)
  clear Cx1 hm hr Z act E qa1
  refine QChain.go fun Z act E => ?_
  refine qc_callF (args := #[.pointer (some ⟨p, 0, none⟩), .slice ao_a1 ((encR b).length) cap_a1]) rfl (wanted_none rfl) rfl Try.func23 (args2 (E.d 3) (chv (v := .slice ao_a1 ((encR b).length) cap_a1) (E.d 5))) (RAppend_A Hx4.out (⟨Hx3.out.rd.1, Hx3.out.rd.2.1, Nat.le_refl _⟩ : RdR _ (encR b).length _ _ (encR b)) (by intro k h1; have hb := HB2.out k h1; omega) (by intro k h1; omega) (by intro k h1 h2; have hb := HB2.out k h2; omega) HD1.out) ?_
  rintro e u3_2a ⟨rfl, qdk, hm⟩
  have zu3_2a := hm.size
  refine ⟨_, rfl, hm.mono (by intro k hk h; first | omega | exact Or.inl ⟨(by have hb := HB2.out k h; omega), ⟨rfl, h⟩⟩), (fun _ => rfl), ?_⟩
  intro u3_2 hr
  have zu3_2 := hr.size
  have Hx6 := hid (qdk.mod hr (by intro k h1 h2; have hb := HB2.out k h1; omega))
  have hmr := hm.two hr
  have Hx7 := hid (Hx3.out.mod hmr (by intro k h1 h2; rcases h2 with h2 | h2 <;> first | omega | (have hb := HB2.out k h2; omega) | exact HX2.out (h2 ▸ h1) | exact HX2.out (h1 ▸ h2) | exact HXQ.out (h2 ▸ h1) | exact HXQ.out (h1 ▸ h2) | exact HX3.out (h2 ▸ h1) | exact HX3.out (h1 ▸ h2)))
  clear Hx3
  clear hmr
  have Cx8 := hid (Cx5.out.goM hm hr (fun _ _ h => h))
  clear Cx5 hm hr Z act E qdk Hx4
  clear Hx7
  refine QChain.nil fun vs hl hzz hrows hne => ?_
  obtain ⟨Z, hYZ, hZb, hV⟩ := hzz
  have f0 := fvi hV hl 0
  have f4 := fvi hV hl 4
  have f5 := fvc hV hl 5
  have f6 := fvi hV hl 6
  have f7 := fvi hV hl 7
  rw [show vs = [gw vs 0, gw vs 1, gw vs 2, gw vs 3, gw vs 4, gw vs 5, gw vs 6, gw vs 7] from (gw_eta hl).trans rfl]
  have ha0 := HA0.out
  subst ha0
  clear HA0 hV hYZ hZb hsz0 hrows hne oe0 oe1
  simp only [putAll, Act.put, List.setIfInBounds_toArray, List.set_cons_zero, List.set_cons_succ, f0, f4, f5, f6, f7]
  clear hl f0 f4 f5 f6 f7
  go_upto_region 4 with (fail)
  refine wp_region_U 40 [17, 18] [0, 1] (fun a0 HA0 => ?_)
  have oe5 := ev HA0 5 rfl
  refine QSeq.pure rfl _ (fun E => ex_move rfl (E.v oe5)) ?_
  refine QSeq.pure rfl (.bool true) (fun E => ex_binE rfl (E.d 0 0) rfl (guard_ints _ _ _ _ _ _) (run_neq_i _ _ _ Try.underlying26) (congrArg Value.bool (ne_tt (by decide)))) ?_
  refine QSeq.nil (t' := [_, _]) rfl ?_
  obtain rfl := HA0.out
  clear HA0 oe5
  simp only [pz, Act.put, List.setIfInBounds_toArray, List.set_cons_zero, List.set_cons_succ]
  go_upto_region 5 with (fail)
  refine wp_region_U 40 [19, 4] [0, 1] (fun a0 HA0 => ?_)
  have oe5 := ev HA0 5 rfl
  refine QSeq.pure rfl _ (fun E => ex_move rfl (E.v oe5)) ?_
  refine QSeq.pure rfl _ (fun E => ex_assign rfl (E.d 0 0)) ?_
  refine QSeq.nil (t' := [_, _]) rfl ?_
  obtain rfl := HA0.out
  clear HA0 oe5
  simp only [pz, Act.put, List.setIfInBounds_toArray, List.set_cons_zero, List.set_cons_succ]
  go_wp2
  go_ret
  refine ⟨rfl, u3_2, by omega, by omega, Hx6.out.widen (fun k h1 => Or.inl h1) (by omega), ⟨_, (HWL.out.mod Cx8.out (by intro h2; first | omega | (have hb := HB2.out _ h2; omega) | exact HX2.out h2 | exact HXQ.out h2 | exact HX3.out h2)), Or.inl HX1.out, (HOL.out.mod Cx8.out (by intro k h1 h2; first | omega | (have hb := HBQ.out k h1; omega) | (have hb := HB2.out k h2; omega) | exact HQ2.out k h1 h2 | exact HQ2.out k h2 h1 | exact HQ3.out k h1 h2 | exact HQ3.out k h2 h1 | exact H23.out k h1 h2 | exact H23.out k h2 h1 | (have hb := HBQ.out k h1; have hb2 := HB2.out k h2; omega) | exact HX2.out (h2 ▸ h1) | exact HX2.out (h1 ▸ h2) | exact HXQ.out (h2 ▸ h1) | exact HXQ.out (h1 ▸ h2) | exact HX3.out (h2 ▸ h1) | exact HX3.out (h1 ▸ h2)) (by intro k h1 h2; first | omega | (have hb := HBQ.out k h1; omega) | (have hb := HB2.out k h2; omega) | exact HQ2.out k h1 h2 | exact HQ2.out k h2 h1 | exact HQ3.out k h1 h2 | exact HQ3.out k h2 h1 | exact H23.out k h1 h2 | exact H23.out k h2 h1 | (have hb := HBQ.out k h1; have hb2 := HB2.out k h2; omega) | exact HX2.out (h2 ▸ h1) | exact HX2.out (h1 ▸ h2) | exact HXQ.out (h2 ▸ h1) | exact HXQ.out (h1 ▸ h2) | exact HX3.out (h2 ▸ h1) | exact HX3.out (h1 ▸ h2))).widen (fun k h1 => ⟨Or.inl (HQ1.out k h1).1, (HQ1.out k h1).2⟩) (fun k h1 => ⟨Or.inl (HQ1.out k h1).1, (HQ1.out k h1).2⟩)⟩, (HM0.out.trans Cx8.out (by intro k h1 h2; first | exact h2 | omega | exact Or.inl h2 | exact Or.inr h2 | exact Or.inr (Or.inl h2) | exact Or.inr (Or.inr h2) | (have hb := HB2.out k h2; omega))).mono (fun k _ h => by rcases h with h | h | h <;> first | exact Or.inl (HQ1.out k h).1 | exact Or.inr h | exact Or.inl (h ▸ HX1.out))⟩
set_option maxHeartbeats 4000000 in
theorem RPut_B {R1 R2 R3 : Nat → Prop} {N M x p : Nat} {rs : List (List Int)} {s : DS} {v : Value} {b : List Int} {w : World} (hw : RlR R1 w x p rs) (hd : RkR R2 N w p s) (hb : RdR R3 M w v b) (hB1 : ∀ k, R1 k → k < w.heap.size) (hB2 : ∀ k, R2 k → k < w.heap.size) (hB3 : ∀ k, R3 k → k < w.heap.size)
    (h12 : ∀ k, R1 k → R2 k → False) (h13 : ∀ k, R3 k → R1 k → False) (h23 : ∀ k, R3 k → R2 k → False) (hbl : b.length ≤ 65536) (hN : N ≤ 800000) (hrl : rs.length ≤ 900000) (hd1 : (dStep s).dead = false) (hd2 : (dStep (dAppend s (encR b))).dead = true) :
    Calls Try.prog 29 #[.pointer (some ⟨x, 0, none⟩), v] w fun e w' => e = .returned (.int .i64 9) ∧ RPutTo R1 R2 (N + (encR b).length) w w' x p rs (dStep (dAppend s (encR b))) := by
  obtain ⟨v0, hc, hx, ho0⟩ := hw
  obtain ⟨Q1, hQ1, ho⟩ : ∃ Q : Nat → Prop, (∀ k, Q k → R1 k ∧ k ≠ x) ∧ OwS RwR 22 Q Q w v0 rs := ⟨_, fun _ h => h, ho0⟩
  obtain ⟨ao, cap, rfl⟩ := ho.shape
  obtain ⟨ab, cb, rfl⟩ := hb.shape
  have hxl := hc.lt
  have HWL := Lib.hid hc
  have HOL := Lib.hid ho
  have HQ1 := Lib.hid hQ1
  have HDK := Lib.hid hd
  have HB := Lib.hid hb
  have HBQ := hid (fun k (h : Q1 k) => hB1 k (hQ1 k h).1)
  have HB2 := Lib.hid hB2
  have HB3 := Lib.hid hB3
  have HQ2 := hid (fun k (h : Q1 k) => h12 k (hQ1 k h).1)
  have HQ3 := hid (fun k (h : Q1 k) (h3 : R3 k) => h13 k h3 (hQ1 k h).1)
  have H23 := hid (fun k (h : R2 k) (h3 : R3 k) => h23 k h3 h)
  have HX2 := hid (fun (h : R2 x) => h12 x hx h)
  have HXQ := hid (fun (h : Q1 x) => (hQ1 x h).2 rfl)
  have HX3 := hid (fun (h : R3 x) => h13 x h hx)
  have HX1 := Lib.hid hx
  have hel := encR_len (b := b) (by omega)
  have HB1 := Lib.hid hB1
  clear hc ho0 ho hQ1 hd hb hB1 hB2 hB3 h12 h13 h23 hx
  go_enter Try.func29, Try.ntmps29
  go_upto_region 1 with (fail)
  have HM0 := hid (Mod.refl (fun k => (k = x) ∨ (Q1 k) ∨ (R2 k)) w)
  go_upto_region 1 with (fail)
  refine wp_region_U 40 [7, 8, 9] [0, 1, 2] (fun a0 HA0 => ?_)
  have oe1 := ev HA0 1 rfl
  refine QSeq.pure rfl _ (fun E => ex_move rfl (E.v oe1)) ?_
  refine QSeq.pure rfl (.int .i64 b.length) (fun E => ex_lenS rfl (E.d 0 0) Try.underlying22) ?_
  refine QSeq.pure rfl (.bool false) (fun E => ex_binE rfl (E.d 1 0) rfl (guard_ints _ _ _ _ _ _) (run_gtr_i _ _ _ Try.underlying3) (congrArg Value.bool (decide_eq_false (by omega)))) ?_
  refine QSeq.nil (t' := [_, _, _]) rfl ?_
  obtain rfl := HA0.out
  clear HA0 oe1
  simp only [pz, Act.put, List.setIfInBounds_toArray, List.set_cons_zero, List.set_cons_succ]
  have HD1 := Lib.hid hd1
  clear hd1
  go_upto_region 3 with (fail)
  generalize ha0 : Act.mk _ _ = a0
  have oe0 : a0.eval (.tmp 0) = .pointer (some ⟨x, 0, none⟩) := by rw [← ha0]; rfl
  have oe1 : a0.eval (.tmp 1) = .slice ab b.length cb := by rw [← ha0]; rfl
  have hsz0 : a0.tmps.size = 40 := by rw [← ha0]; rfl
  have HA0 := hid ha0
  clear ha0
  refine wp_region_Q1 40 hsz0 [10, 11, 12, 13, 14, 15, 16, 5] (fun k => (R2 k)) (fun k j => (k = 1 ∧ ((R2 j)))) (fun _ _ h => h.2) [qi (.pointer (some ⟨x, 0, none⟩)), qi (.pointer (some ⟨x, 0, none⟩)), qi (.pointer (some ⟨x, 0, none⟩)), qi (.pointer (some ⟨p, 0, none⟩)), qi (.slice ab b.length cb), qv 0, qi (.int .i64 0), qi (.int .i64 0)] ⟨qi_stable, qi_stable, qi_stable, qi_stable, qi_stable, qv_stable, qi_stable, qi_stable, trivial⟩ [5, 6] ⟨?_, ?_, ?_, ?_, ?_, ?_, ?_, ?_, trivial⟩ ?_
  · exact stq (fun E => ex_move rfl (E.v oe0))
  · exact stq (fun E => ex_nil rfl (E.d 0))
  · exact stq (fun E => ex_field rfl Try.underlying56 rfl (by kernel_rfl) (E.d 1))
  · exact stq (fun E => ex_load1 rfl Try.underlying45 rfl (E.d 2) (Cs.lit1 (HWL.out.mod E.m (by intro h2; rcases h2 with ⟨h0, h2⟩ | h2 <;> first | omega | (have hb := HB2.out _ h2; omega) | exact HX2.out h2 | exact HXQ.out h2 | exact HX3.out h2)) rfl))
  · exact stq (fun E => ex_move rfl (E.v oe1))
  · exact stepq_chain rfl
  · exact stepq_chain rfl
  · exact stq (fun E => ex_assign rfl (E.d 6))
  intro u3_0 hr
  have zu3_0 := hr.size
  have Cx1 := hid (hr.new (S := (fun k => (R2 k))))
  have Hx2 := hid (HDK.out.mod hr (by intro k h1 h2; have hb := HB2.out k h1; omega))
  clear HDK
  clear hr
  refine QChain.go fun Z act E => ?_
  refine qc_callF (args := #[.slice ab b.length cb]) rfl (wanted_none rfl) rfl Try.func46 (args1 (E.d 4)) (RefRow_W (HB.out.mod Cx1.out (by intro k h1 h2; first | omega | (have hb := HB3.out k h1; omega) | (have hb := HB2.out k h2; omega) | exact HQ2.out k h1 h2 | exact HQ2.out k h2 h1 | exact HQ3.out k h1 h2 | exact HQ3.out k h2 h1 | exact H23.out k h1 h2 | exact H23.out k h2 h1 | (have hb := HB3.out k h1; have hb2 := HB2.out k h2; omega) | exact HX2.out (h2 ▸ h1) | exact HX2.out (h1 ▸ h2) | exact HXQ.out (h2 ▸ h1) | exact HXQ.out (h1 ▸ h2) | exact HX3.out (h2 ▸ h1) | exact HX3.out (h1 ▸ h2))) (by omega)) ?_
  rintro e u3_1a ⟨v_a1, rfl, qa1, hm⟩
  obtain ⟨ao_a1, cap_a1, rfl⟩ := qa1.shape
  have zu3_1a := hm.size
  refine ⟨_, rfl, hm.mono (fun _ _ h => h.elim), (fun _ => rfl), ?_⟩
  intro u3_1 hr
  have zu3_1 := hr.size
  have Hx3 := hid ((qa1.widen (R' := (fun k => (New u3_0 u3_1a k))) (fun _ h => h) (Nat.le_refl _)).mod hr (by intro k h1 h2; omega))
  have hmr := Mod.after hm hr
  have Hx4 := hid (Hx2.out.mod hmr (by intro k h1 h2; have hb := HB2.out k h1; omega))
  clear Hx2
  clear hmr
  have Cx5 := hid (Cx1.out.go hm hr)
  clear Cx1 hm hr Z act E qa1
  refine QChain.go fun Z act E => ?_
  refine qc_callF (args := #[.pointer (some ⟨p, 0, none⟩), .slice ao_a1 ((encR b).length) cap_a1]) rfl (wanted_none rfl) rfl Try.func23 (args2 (E.d 3) (chv (v := .slice ao_a1 ((encR b).length) cap_a1) (E.d 5))) (RAppend_C Hx4.out (⟨Hx3.out.rd.1, Hx3.out.rd.2.1, Nat.le_refl _⟩ : RdR _ (encR b).length _ _ (encR b)) (by intro k h1; have hb := HB2.out k h1; omega) (by intro k h1; omega) (by intro k h1 h2; have hb := HB2.out k h2; omega) HD1.out (by omega)) ?_
  rintro e u3_2a ⟨rfl, qdk, hm⟩
  have zu3_2a := hm.size
  refine ⟨_, rfl, hm.mono (by intro k hk h; first | omega | exact Or.inl ⟨(by have hb := HB2.out k h; omega), ⟨rfl, h⟩⟩), (fun _ => rfl), ?_⟩
  intro u3_2 hr
  have zu3_2 := hr.size
  have Hx6 := hid ((qdk.widen (R' := (fun k => (R2 k) ∨ (New u3_1 u3_2a k))) (fun _ h => h) (Nat.le_refl _)).mod hr (by intro k h1 h2; rcases h1 with h1 | h1 <;> first | omega | (have hb := HB2.out k h1; omega) | exact HX2.out (h2 ▸ h1) | exact HX2.out (h1 ▸ h2) | exact HXQ.out (h2 ▸ h1) | exact HXQ.out (h1 ▸ h2) | exact HX3.out (h2 ▸ h1) | exact HX3.out (h1 ▸ h2)))
  have hmr := hm.two hr
  have Hx7 := hid (Hx3.out.mod hmr (by intro k h1 h2; rcases h2 with h2 | h2 <;> first | omega | (have hb := HB2.out k h2; omega) | exact HX2.out (h2 ▸ h1) | exact HX2.out (h1 ▸ h2) | exact HXQ.out (h2 ▸ h1) | exact HXQ.out (h1 ▸ h2) | exact HX3.out (h2 ▸ h1) | exact HX3.out (h1 ▸ h2)))
  clear Hx3
  clear hmr
  have Cx8 := hid (Cx5.out.goM hm hr (fun _ _ h => h))
  clear Cx5 hm hr Z act E qdk Hx4
  clear Hx7
  refine QChain.nil fun vs hl hzz hrows hne => ?_
  obtain ⟨Z, hYZ, hZb, hV⟩ := hzz
  have f0 := fvi hV hl 0
  have f4 := fvi hV hl 4
  have f5 := fvc hV hl 5
  have f6 := fvi hV hl 6
  have f7 := fvi hV hl 7
  rw [show vs = [gw vs 0, gw vs 1, gw vs 2, gw vs 3, gw vs 4, gw vs 5, gw vs 6, gw vs 7] from (gw_eta hl).trans rfl]
  have ha0 := HA0.out
  subst ha0
  clear HA0 hV hYZ hZb hsz0 hrows hne oe0 oe1
  simp only [putAll, Act.put, List.setIfInBounds_toArray, List.set_cons_zero, List.set_cons_succ, f0, f4, f5, f6, f7]
  clear hl f0 f4 f5 f6 f7
  go_upto_region 4 with (fail)
  refine wp_region_U 40 [17, 18] [0, 1] (fun a0 HA0 => ?_)
  have oe5 := ev HA0 5 rfl
  refine QSeq.pure rfl _ (fun E => ex_move rfl (E.v oe5)) ?_
  refine QSeq.pure rfl (.bool false) (fun E => ex_binE rfl (E.d 0 0) rfl (guard_ints _ _ _ _ _ _) (run_neq_i _ _ _ Try.underlying26) (congrArg Value.bool (ne_ff rfl))) ?_
  refine QSeq.nil (t' := [_, _]) rfl ?_
  obtain rfl := HA0.out
  clear HA0 oe5
  simp only [pz, Act.put, List.setIfInBounds_toArray, List.set_cons_zero, List.set_cons_succ]
  have HD2 := Lib.hid hd2
  clear hd2
  go_upto_region 6 with (fail)
  refine wp_region_U 40 [20, 21, 22, 23, 24, 6] [0, 1, 2, 3, 4, 5] (fun a0 HA0 => ?_)
  have oe0 := ev HA0 0 rfl
  refine QSeq.pure rfl _ (fun E => ex_move rfl (E.v oe0)) ?_
  refine QSeq.pure rfl (.pointer (some ⟨x, 0, none⟩)) (fun E => ex_nil rfl (E.d 0 0)) ?_
  refine QSeq.pure rfl (.pointer (some ⟨x, 0, none⟩)) (fun E => ex_field rfl Try.underlying56 rfl (by kernel_rfl) (E.d 1 0)) ?_
  refine QSeq.pure rfl _ (fun E => ex_load1 rfl Try.underlying45 rfl (E.d 2 0) (Cs.lit1 (HWL.out.mod Cx8.out (by intro h2; first | omega | (have hb := HB2.out _ h2; omega) | exact HX2.out h2 | exact HXQ.out h2 | exact HX3.out h2)) rfl)) ?_
  refine QSeq.call rfl rfl Try.func45 (RSync_A Hx6.out (by intro k h1; rcases h1 with h1 | h1 <;> first | omega | (have hb := HB2.out k h1; omega)) HD2.out (by omega)) (fun E => args1 (E.d 3 0)) ?_
  rintro e u6_4 ⟨rfl, qdk, hm⟩
  refine ⟨_, rfl, ?_⟩
  have Hx9 := hid qdk
  have zu6_4 := hm.size
  have Cx10 := hid (show Mod (fun k => (R2 k) ∨ (New u3_1 u3_2a k)) u3_2 u6_4 from hm)
  clear hm
  clear qdk Hx6
  refine QSeq.pure rfl _ (fun E => ex_assign rfl (E.d 4 0)) ?_
  refine QSeq.nil (t' := [_, _, _, _, _, _]) rfl ?_
  obtain rfl := HA0.out
  clear HA0 oe0
  simp only [pz, Act.put, List.setIfInBounds_toArray, List.set_cons_zero, List.set_cons_succ]
  go_upto_region 7 with (fail)
  refine wp_region_U 40 [25, 26] [0, 1] (fun a0 HA0 => ?_)
  have oe6 := ev HA0 6 rfl
  refine QSeq.pure rfl _ (fun E => ex_move rfl (E.v oe6)) ?_
  refine QSeq.pure rfl (.bool true) (fun E => ex_binE rfl (E.d 0 0) rfl (guard_ints _ _ _ _ _ _) (run_neq_i _ _ _ Try.underlying26) (congrArg Value.bool (ne_tt (by decide)))) ?_
  refine QSeq.nil (t' := [_, _]) rfl ?_
  obtain rfl := HA0.out
  clear HA0 oe6
  simp only [pz, Act.put, List.setIfInBounds_toArray, List.set_cons_zero, List.set_cons_succ]
  go_upto_region 8 with (fail)
  refine wp_region_U 40 [27, 4] [0, 1] (fun a0 HA0 => ?_)
  have oe6 := ev HA0 6 rfl
  refine QSeq.pure rfl _ (fun E => ex_move rfl (E.v oe6)) ?_
  refine QSeq.pure rfl _ (fun E => ex_assign rfl (E.d 0 0)) ?_
  refine QSeq.nil (t' := [_, _]) rfl ?_
  obtain rfl := HA0.out
  clear HA0 oe6
  simp only [pz, Act.put, List.setIfInBounds_toArray, List.set_cons_zero, List.set_cons_succ]
  go_wp2
  go_ret
  refine ⟨rfl, u6_4, by omega, by omega, Hx9.out.widen (by intro k h1; rcases h1 with h1 | h1 <;> first | exact Or.inl h1 | (right; omega)) (by omega), ⟨_, ((HWL.out.mod Cx8.out (by intro h2; first | omega | (have hb := HB2.out _ h2; omega) | exact HX2.out h2 | exact HXQ.out h2 | exact HX3.out h2)).mod Cx10.out (by intro h2; rcases h2 with h2 | h2 <;> first | omega | (have hb := HB2.out _ h2; omega) | exact HX2.out h2 | exact HXQ.out h2 | exact HX3.out h2)), Or.inl HX1.out, ((HOL.out.mod Cx8.out (by intro k h1 h2; first | omega | (have hb := HBQ.out k h1; omega) | (have hb := HB2.out k h2; omega) | exact HQ2.out k h1 h2 | exact HQ2.out k h2 h1 | exact HQ3.out k h1 h2 | exact HQ3.out k h2 h1 | exact H23.out k h1 h2 | exact H23.out k h2 h1 | (have hb := HBQ.out k h1; have hb2 := HB2.out k h2; omega) | exact HX2.out (h2 ▸ h1) | exact HX2.out (h1 ▸ h2) | exact HXQ.out (h2 ▸ h1) | exact HXQ.out (h1 ▸ h2) | exact HX3.out (h2 ▸ h1) | exact HX3.out (h1 ▸ h2)) (by intro k h1 h2; first | omega | (have hb := HBQ.out k h1; omega) | (have hb := HB2.out k h2; omega) | exact HQ2.out k h1 h2 | exact HQ2.out k h2 h1 | exact HQ3.out k h1 h2 | exact HQ3.out k h2 h1 | exact H23.out k h1 h2 | exact H23.out k h2 h1 | (have hb := HBQ.out k h1; have hb2 := HB2.out k h2; omega) | exact HX2.out (h2 ▸ h1) | exact HX2.out (h1 ▸ h2) | exact HXQ.out (h2 ▸ h1) | exact HXQ.out (h1 ▸ h2) | exact HX3.out (h2 ▸ h1) | exact HX3.out (h1 ▸ h2))).mod Cx10.out (by intro k h1 h2; rcases h2 with h2 | h2 <;> first | omega | (have hb := HBQ.out k h1; omega) | (have hb := HB2.out k h2; omega) | exact HQ2.out k h1 h2 | exact HQ2.out k h2 h1 | exact HQ3.out k h1 h2 | exact HQ3.out k h2 h1 | exact H23.out k h1 h2 | exact H23.out k h2 h1 | (have hb := HBQ.out k h1; have hb2 := HB2.out k h2; omega) | exact HX2.out (h2 ▸ h1) | exact HX2.out (h1 ▸ h2) | exact HXQ.out (h2 ▸ h1) | exact HXQ.out (h1 ▸ h2) | exact HX3.out (h2 ▸ h1) | exact HX3.out (h1 ▸ h2)) (by intro k h1 h2; rcases h2 with h2 | h2 <;> first | omega | (have hb := HBQ.out k h1; omega) | (have hb := HB2.out k h2; omega) | exact HQ2.out k h1 h2 | exact HQ2.out k h2 h1 | exact HQ3.out k h1 h2 | exact HQ3.out k h2 h1 | exact H23.out k h1 h2 | exact H23.out k h2 h1 | (have hb := HBQ.out k h1; have hb2 := HB2.out k h2; omega) | exact HX2.out (h2 ▸ h1) | exact HX2.out (h1 ▸ h2) | exact HXQ.out (h2 ▸ h1) | exact HXQ.out (h1 ▸ h2) | exact HX3.out (h2 ▸ h1) | exact HX3.out (h1 ▸ h2))).widen (fun k h1 => ⟨Or.inl (HQ1.out k h1).1, (HQ1.out k h1).2⟩) (fun k h1 => ⟨Or.inl (HQ1.out k h1).1, (HQ1.out k h1).2⟩)⟩, ((HM0.out.trans Cx8.out (by intro k h1 h2; first | exact h2 | omega | exact Or.inl h2 | exact Or.inr h2 | exact Or.inr (Or.inl h2) | exact Or.inr (Or.inr h2) | (have hb := HB2.out k h2; omega))).trans Cx10.out (by intro k h1 h2; rcases h2 with h2 | h2 <;> first | exact h2 | omega | exact Or.inl h2 | exact Or.inr h2 | exact Or.inr (Or.inl h2) | exact Or.inr (Or.inr h2) | (have hb := HB2.out k h2; omega))).mono (fun k _ h => by rcases h with h | h | h <;> first | exact Or.inl (HQ1.out k h).1 | exact Or.inr h | exact Or.inl (h ▸ HX1.out))⟩
set_option maxHeartbeats 4000000 in
theorem RPut_C {R1 R2 R3 : Nat → Prop} {N M x p : Nat} {rs : List (List Int)} {s : DS} {v : Value} {b : List Int} {w : World} (hw : RlR R1 w x p rs) (hd : RkR R2 N w p s) (hb : RdR R3 M w v b) (hB1 : ∀ k, R1 k → k < w.heap.size) (hB2 : ∀ k, R2 k → k < w.heap.size) (hB3 : ∀ k, R3 k → k < w.heap.size)
    (h12 : ∀ k, R1 k → R2 k → False) (h13 : ∀ k, R3 k → R1 k → False) (h23 : ∀ k, R3 k → R2 k → False) (hbl : b.length ≤ 65536) (hN : N ≤ 800000) (hrl : rs.length ≤ 900000) (hd1 : (dStep s).dead = false) (hd2 : (dStep (dAppend s (encR b))).dead = false) :
    Calls Try.prog 29 #[.pointer (some ⟨x, 0, none⟩), v] w fun e w' => e = .returned (.int .i64 0) ∧ RPutTo R1 R2 (N + (encR b).length) w w' x p (rs ++ [b]) (dSync (dAppend s (encR b))) := by
  obtain ⟨v0, hc, hx, ho0⟩ := hw
  obtain ⟨Q1, hQ1, ho⟩ : ∃ Q : Nat → Prop, (∀ k, Q k → R1 k ∧ k ≠ x) ∧ OwS RwR 22 Q Q w v0 rs := ⟨_, fun _ h => h, ho0⟩
  obtain ⟨ao, cap, rfl⟩ := ho.shape
  obtain ⟨ab, cb, rfl⟩ := hb.shape
  have hxl := hc.lt
  have HWL := Lib.hid hc
  have HOL := Lib.hid ho
  have HQ1 := Lib.hid hQ1
  have HDK := Lib.hid hd
  have HB := Lib.hid hb
  have HBQ := hid (fun k (h : Q1 k) => hB1 k (hQ1 k h).1)
  have HB2 := Lib.hid hB2
  have HB3 := Lib.hid hB3
  have HQ2 := hid (fun k (h : Q1 k) => h12 k (hQ1 k h).1)
  have HQ3 := hid (fun k (h : Q1 k) (h3 : R3 k) => h13 k h3 (hQ1 k h).1)
  have H23 := hid (fun k (h : R2 k) (h3 : R3 k) => h23 k h3 h)
  have HX2 := hid (fun (h : R2 x) => h12 x hx h)
  have HXQ := hid (fun (h : Q1 x) => (hQ1 x h).2 rfl)
  have HX3 := hid (fun (h : R3 x) => h13 x h hx)
  have HX1 := Lib.hid hx
  have hel := encR_len (b := b) (by omega)
  have HB1 := Lib.hid hB1
  clear hc ho0 ho hQ1 hd hb hB1 hB2 hB3 h12 h13 h23 hx
  go_enter Try.func29, Try.ntmps29
  go_upto_region 1 with (fail)
  have HM0 := hid (Mod.refl (fun k => (k = x) ∨ (Q1 k) ∨ (R2 k)) w)
  go_upto_region 1 with (fail)
  refine wp_region_U 40 [7, 8, 9] [0, 1, 2] (fun a0 HA0 => ?_)
  have oe1 := ev HA0 1 rfl
  refine QSeq.pure rfl _ (fun E => ex_move rfl (E.v oe1)) ?_
  refine QSeq.pure rfl (.int .i64 b.length) (fun E => ex_lenS rfl (E.d 0 0) Try.underlying22) ?_
  refine QSeq.pure rfl (.bool false) (fun E => ex_binE rfl (E.d 1 0) rfl (guard_ints _ _ _ _ _ _) (run_gtr_i _ _ _ Try.underlying3) (congrArg Value.bool (decide_eq_false (by omega)))) ?_
  refine QSeq.nil (t' := [_, _, _]) rfl ?_
  obtain rfl := HA0.out
  clear HA0 oe1
  simp only [pz, Act.put, List.setIfInBounds_toArray, List.set_cons_zero, List.set_cons_succ]
  have HD1 := Lib.hid hd1
  clear hd1
  go_upto_region 3 with (fail)
  generalize ha0 : Act.mk _ _ = a0
  have oe0 : a0.eval (.tmp 0) = .pointer (some ⟨x, 0, none⟩) := by rw [← ha0]; rfl
  have oe1 : a0.eval (.tmp 1) = .slice ab b.length cb := by rw [← ha0]; rfl
  have hsz0 : a0.tmps.size = 40 := by rw [← ha0]; rfl
  have HA0 := hid ha0
  clear ha0
  refine wp_region_Q1 40 hsz0 [10, 11, 12, 13, 14, 15, 16, 5] (fun k => (R2 k)) (fun k j => (k = 1 ∧ ((R2 j)))) (fun _ _ h => h.2) [qi (.pointer (some ⟨x, 0, none⟩)), qi (.pointer (some ⟨x, 0, none⟩)), qi (.pointer (some ⟨x, 0, none⟩)), qi (.pointer (some ⟨p, 0, none⟩)), qi (.slice ab b.length cb), qv 0, qi (.int .i64 0), qi (.int .i64 0)] ⟨qi_stable, qi_stable, qi_stable, qi_stable, qi_stable, qv_stable, qi_stable, qi_stable, trivial⟩ [5, 6] ⟨?_, ?_, ?_, ?_, ?_, ?_, ?_, ?_, trivial⟩ ?_
  · exact stq (fun E => ex_move rfl (E.v oe0))
  · exact stq (fun E => ex_nil rfl (E.d 0))
  · exact stq (fun E => ex_field rfl Try.underlying56 rfl (by kernel_rfl) (E.d 1))
  · exact stq (fun E => ex_load1 rfl Try.underlying45 rfl (E.d 2) (Cs.lit1 (HWL.out.mod E.m (by intro h2; rcases h2 with ⟨h0, h2⟩ | h2 <;> first | omega | (have hb := HB2.out _ h2; omega) | exact HX2.out h2 | exact HXQ.out h2 | exact HX3.out h2)) rfl))
  · exact stq (fun E => ex_move rfl (E.v oe1))
  · exact stepq_chain rfl
  · exact stepq_chain rfl
  · exact stq (fun E => ex_assign rfl (E.d 6))
  intro u3_0 hr
  have zu3_0 := hr.size
  have Cx1 := hid (hr.new (S := (fun k => (R2 k))))
  have Hx2 := hid (HDK.out.mod hr (by intro k h1 h2; have hb := HB2.out k h1; omega))
  clear HDK
  clear hr
  refine QChain.go fun Z act E => ?_
  refine qc_callF (args := #[.slice ab b.length cb]) rfl (wanted_none rfl) rfl Try.func46 (args1 (E.d 4)) (RefRow_W (HB.out.mod Cx1.out (by intro k h1 h2; first | omega | (have hb := HB3.out k h1; omega) | (have hb := HB2.out k h2; omega) | exact HQ2.out k h1 h2 | exact HQ2.out k h2 h1 | exact HQ3.out k h1 h2 | exact HQ3.out k h2 h1 | exact H23.out k h1 h2 | exact H23.out k h2 h1 | (have hb := HB3.out k h1; have hb2 := HB2.out k h2; omega) | exact HX2.out (h2 ▸ h1) | exact HX2.out (h1 ▸ h2) | exact HXQ.out (h2 ▸ h1) | exact HXQ.out (h1 ▸ h2) | exact HX3.out (h2 ▸ h1) | exact HX3.out (h1 ▸ h2))) (by omega)) ?_
  rintro e u3_1a ⟨v_a1, rfl, qa1, hm⟩
  obtain ⟨ao_a1, cap_a1, rfl⟩ := qa1.shape
  have zu3_1a := hm.size
  refine ⟨_, rfl, hm.mono (fun _ _ h => h.elim), (fun _ => rfl), ?_⟩
  intro u3_1 hr
  have zu3_1 := hr.size
  have Hx3 := hid ((qa1.widen (R' := (fun k => (New u3_0 u3_1a k))) (fun _ h => h) (Nat.le_refl _)).mod hr (by intro k h1 h2; omega))
  have hmr := Mod.after hm hr
  have Hx4 := hid (Hx2.out.mod hmr (by intro k h1 h2; have hb := HB2.out k h1; omega))
  clear Hx2
  clear hmr
  have Cx5 := hid (Cx1.out.go hm hr)
  clear Cx1 hm hr Z act E qa1
  refine QChain.go fun Z act E => ?_
  refine qc_callF (args := #[.pointer (some ⟨p, 0, none⟩), .slice ao_a1 ((encR b).length) cap_a1]) rfl (wanted_none rfl) rfl Try.func23 (args2 (E.d 3) (chv (v := .slice ao_a1 ((encR b).length) cap_a1) (E.d 5))) (RAppend_C Hx4.out (⟨Hx3.out.rd.1, Hx3.out.rd.2.1, Nat.le_refl _⟩ : RdR _ (encR b).length _ _ (encR b)) (by intro k h1; have hb := HB2.out k h1; omega) (by intro k h1; omega) (by intro k h1 h2; have hb := HB2.out k h2; omega) HD1.out (by omega)) ?_
  rintro e u3_2a ⟨rfl, qdk, hm⟩
  have zu3_2a := hm.size
  refine ⟨_, rfl, hm.mono (by intro k hk h; first | omega | exact Or.inl ⟨(by have hb := HB2.out k h; omega), ⟨rfl, h⟩⟩), (fun _ => rfl), ?_⟩
  intro u3_2 hr
  have zu3_2 := hr.size
  have Hx6 := hid ((qdk.widen (R' := (fun k => (R2 k) ∨ (New u3_1 u3_2a k))) (fun _ h => h) (Nat.le_refl _)).mod hr (by intro k h1 h2; rcases h1 with h1 | h1 <;> first | omega | (have hb := HB2.out k h1; omega) | exact HX2.out (h2 ▸ h1) | exact HX2.out (h1 ▸ h2) | exact HXQ.out (h2 ▸ h1) | exact HXQ.out (h1 ▸ h2) | exact HX3.out (h2 ▸ h1) | exact HX3.out (h1 ▸ h2)))
  have hmr := hm.two hr
  have Hx7 := hid (Hx3.out.mod hmr (by intro k h1 h2; rcases h2 with h2 | h2 <;> first | omega | (have hb := HB2.out k h2; omega) | exact HX2.out (h2 ▸ h1) | exact HX2.out (h1 ▸ h2) | exact HXQ.out (h2 ▸ h1) | exact HXQ.out (h1 ▸ h2) | exact HX3.out (h2 ▸ h1) | exact HX3.out (h1 ▸ h2)))
  clear Hx3
  clear hmr
  have Cx8 := hid (Cx5.out.goM hm hr (fun _ _ h => h))
  clear Cx5 hm hr Z act E qdk Hx4
  clear Hx7
  refine QChain.nil fun vs hl hzz hrows hne => ?_
  obtain ⟨Z, hYZ, hZb, hV⟩ := hzz
  have f0 := fvi hV hl 0
  have f4 := fvi hV hl 4
  have f5 := fvc hV hl 5
  have f6 := fvi hV hl 6
  have f7 := fvi hV hl 7
  rw [show vs = [gw vs 0, gw vs 1, gw vs 2, gw vs 3, gw vs 4, gw vs 5, gw vs 6, gw vs 7] from (gw_eta hl).trans rfl]
  have ha0 := HA0.out
  subst ha0
  clear HA0 hV hYZ hZb hsz0 hrows hne oe0 oe1
  simp only [putAll, Act.put, List.setIfInBounds_toArray, List.set_cons_zero, List.set_cons_succ, f0, f4, f5, f6, f7]
  clear hl f0 f4 f5 f6 f7
  go_upto_region 4 with (fail)
  refine wp_region_U 40 [17, 18] [0, 1] (fun a0 HA0 => ?_)
  have oe5 := ev HA0 5 rfl
  refine QSeq.pure rfl _ (fun E => ex_move rfl (E.v oe5)) ?_
  refine QSeq.pure rfl (.bool false) (fun E => ex_binE rfl (E.d 0 0) rfl (guard_ints _ _ _ _ _ _) (run_neq_i _ _ _ Try.underlying26) (congrArg Value.bool (ne_ff rfl))) ?_
  refine QSeq.nil (t' := [_, _]) rfl ?_
  obtain rfl := HA0.out
  clear HA0 oe5
  simp only [pz, Act.put, List.setIfInBounds_toArray, List.set_cons_zero, List.set_cons_succ]
  have HD2 := Lib.hid hd2
  clear hd2
  go_upto_region 6 with (fail)
  refine wp_region_U 40 [20, 21, 22, 23, 24, 6] [0, 1, 2, 3, 4, 5] (fun a0 HA0 => ?_)
  have oe0 := ev HA0 0 rfl
  refine QSeq.pure rfl _ (fun E => ex_move rfl (E.v oe0)) ?_
  refine QSeq.pure rfl (.pointer (some ⟨x, 0, none⟩)) (fun E => ex_nil rfl (E.d 0 0)) ?_
  refine QSeq.pure rfl (.pointer (some ⟨x, 0, none⟩)) (fun E => ex_field rfl Try.underlying56 rfl (by kernel_rfl) (E.d 1 0)) ?_
  refine QSeq.pure rfl _ (fun E => ex_load1 rfl Try.underlying45 rfl (E.d 2 0) (Cs.lit1 (HWL.out.mod Cx8.out (by intro h2; first | omega | (have hb := HB2.out _ h2; omega) | exact HX2.out h2 | exact HXQ.out h2 | exact HX3.out h2)) rfl)) ?_
  refine QSeq.call rfl rfl Try.func45 (RSync_C Hx6.out (by intro k h1; rcases h1 with h1 | h1 <;> first | omega | (have hb := HB2.out k h1; omega)) HD2.out (by omega)) (fun E => args1 (E.d 3 0)) ?_
  rintro e u6_4 ⟨rfl, qdk, hm⟩
  refine ⟨_, rfl, ?_⟩
  have Hx9 := hid qdk
  have zu6_4 := hm.size
  have Cx10 := hid (show Mod (fun k => (R2 k) ∨ (New u3_1 u3_2a k)) u3_2 u6_4 from hm)
  clear hm
  clear qdk Hx6
  refine QSeq.pure rfl _ (fun E => ex_assign rfl (E.d 4 0)) ?_
  refine QSeq.nil (t' := [_, _, _, _, _, _]) rfl ?_
  obtain rfl := HA0.out
  clear HA0 oe0
  simp only [pz, Act.put, List.setIfInBounds_toArray, List.set_cons_zero, List.set_cons_succ]
  go_upto_region 7 with (fail)
  refine wp_region_U 40 [25, 26] [0, 1] (fun a0 HA0 => ?_)
  have oe6 := ev HA0 6 rfl
  refine QSeq.pure rfl _ (fun E => ex_move rfl (E.v oe6)) ?_
  refine QSeq.pure rfl (.bool false) (fun E => ex_binE rfl (E.d 0 0) rfl (guard_ints _ _ _ _ _ _) (run_neq_i _ _ _ Try.underlying26) (congrArg Value.bool (ne_ff rfl))) ?_
  refine QSeq.nil (t' := [_, _]) rfl ?_
  obtain rfl := HA0.out
  clear HA0 oe6
  simp only [pz, Act.put, List.setIfInBounds_toArray, List.set_cons_zero, List.set_cons_succ]
  have HNB := hid (show OwR (fun k => New w w k) 900000 u6_4 (.slice none 0 0) [] from ⟨Own.nil _ _ _ _, (fun g h => by cases h), Nat.zero_le _⟩)
  go_upto_region 9 with (fail)
  refine wp_region_U 40 [28, 29, 30, 31, 32, 33, 34, 35, 36, 37, 38, 39, 52] [0, 1, 2, 3, 4, 5, 6, 7, 8, 9, 10, 11, 12] (fun a0 HA0 => ?_)
  have oe0 := ev HA0 0 rfl
  have oe1 := ev HA0 1 rfl
  refine QSeq.pure rfl _ (fun E => ex_move rfl (E.v oe0)) ?_
  refine QSeq.pure rfl _ (fun E => ex_move rfl (E.v oe0)) ?_
  refine QSeq.pure rfl (.pointer (some ⟨x, 0, none⟩)) (fun E => ex_nil rfl (E.d 1 0)) ?_
  refine QSeq.pure rfl (.pointer (some ⟨x, 1, none⟩)) (fun E => ex_field rfl Try.underlying56 rfl (by kernel_rfl) (E.d 2 0)) ?_
  refine QSeq.pure rfl _ (fun E => ex_load1 rfl Try.underlying33 rfl (E.d 3 0) (Cs.lit1 ((HWL.out.mod Cx8.out (by intro h2; first | omega | (have hb := HB2.out _ h2; omega) | exact HX2.out h2 | exact HXQ.out h2 | exact HX3.out h2)).mod Cx10.out (by intro h2; rcases h2 with h2 | h2 <;> first | omega | (have hb := HB2.out _ h2; omega) | exact HX2.out h2 | exact HXQ.out h2 | exact HX3.out h2)) rfl)) ?_
  refine QSeq.go fun act E => ?_
  refine qc_appS (A := RwR) (e := 22) rfl (wanted_none rfl) rfl (.slice none 0 0) 24 Try.underlying33 info_Rw (by rfl) (of_decide_eq_true (by kernel_rfl)) rfl (E.d 4 0) (OwS.nil _ _ (fun _ => False) (fun _ => False) _) ((((HOL.out.mod Cx8.out (by intro k h1 h2; first | omega | (have hb := HBQ.out k h1; omega) | (have hb := HB2.out k h2; omega) | exact HQ2.out k h1 h2 | exact HQ2.out k h2 h1 | exact HQ3.out k h1 h2 | exact HQ3.out k h2 h1 | exact H23.out k h1 h2 | exact H23.out k h2 h1 | (have hb := HBQ.out k h1; have hb2 := HB2.out k h2; omega) | exact HX2.out (h2 ▸ h1) | exact HX2.out (h1 ▸ h2) | exact HXQ.out (h2 ▸ h1) | exact HXQ.out (h1 ▸ h2) | exact HX3.out (h2 ▸ h1) | exact HX3.out (h1 ▸ h2)) (by intro k h1 h2; first | omega | (have hb := HBQ.out k h1; omega) | (have hb := HB2.out k h2; omega) | exact HQ2.out k h1 h2 | exact HQ2.out k h2 h1 | exact HQ3.out k h1 h2 | exact HQ3.out k h2 h1 | exact H23.out k h1 h2 | exact H23.out k h2 h1 | (have hb := HBQ.out k h1; have hb2 := HB2.out k h2; omega) | exact HX2.out (h2 ▸ h1) | exact HX2.out (h1 ▸ h2) | exact HXQ.out (h2 ▸ h1) | exact HXQ.out (h1 ▸ h2) | exact HX3.out (h2 ▸ h1) | exact HX3.out (h1 ▸ h2))).mod Cx10.out (by intro k h1 h2; rcases h2 with h2 | h2 <;> first | omega | (have hb := HBQ.out k h1; omega) | (have hb := HB2.out k h2; omega) | exact HQ2.out k h1 h2 | exact HQ2.out k h2 h1 | exact HQ3.out k h1 h2 | exact HQ3.out k h2 h1 | exact H23.out k h1 h2 | exact H23.out k h2 h1 | (have hb := HBQ.out k h1; have hb2 := HB2.out k h2; omega) | exact HX2.out (h2 ▸ h1) | exact HX2.out (h1 ▸ h2) | exact HXQ.out (h2 ▸ h1) | exact HXQ.out (h1 ▸ h2) | exact HX3.out (h2 ▸ h1) | exact HX3.out (h1 ▸ h2)) (by intro k h1 h2; rcases h2 with h2 | h2 <;> first | omega | (have hb := HBQ.out k h1; omega) | (have hb := HB2.out k h2; omega) | exact HQ2.out k h1 h2 | exact HQ2.out k h2 h1 | exact HQ3.out k h1 h2 | exact HQ3.out k h2 h1 | exact H23.out k h1 h2 | exact H23.out k h2 h1 | (have hb := HBQ.out k h1; have hb2 := HB2.out k h2; omega) | exact HX2.out (h2 ▸ h1) | exact HX2.out (h1 ▸ h2) | exact HXQ.out (h2 ▸ h1) | exact HXQ.out (h1 ▸ h2) | exact HX3.out (h2 ▸ h1) | exact HX3.out (h1 ▸ h2))).rd.widen (R' := Q1) (fun k h => h.elim id id))) (fun _ _ h => h) (by simp only [List.length_nil]; omega) (by rw [maxLen_val]; simp only [List.length_nil]; omega) ?_
  intro ao6 cap6 u9_5 qo1 hm
  have Hx11 := hid (qo1.widen (R' := (fun k => (New u6_4 u9_5 k))) (E' := (fun k => (Q1 k))) (fun _ h => h.elim (fun h => h.elim) (fun h => h)) (by intro k h1; rcases h1 with h1 | h1 <;> first | omega | exact h1.elim | exact h1))
  have zu9_5 := hm.size
  have Cx12 := hid (show Mod (fun _ => False) u6_4 u9_5 from hm)
  clear hm
  clear act E qo1
  refine QSeq.pure rfl _ (fun E => ex_move rfl (E.v oe1)) ?_
  refine QSeq.go fun act E => ?_
  refine qc_appR rfl (wanted_none rfl) rfl rfl (E.d 6 0) (HNB.out.mod Cx12.out (fun _ _ h => h)) (((HB.out.mod Cx8.out (by intro k h1 h2; first | omega | (have hb := HB3.out k h1; omega) | (have hb := HB2.out k h2; omega) | exact HQ2.out k h1 h2 | exact HQ2.out k h2 h1 | exact HQ3.out k h1 h2 | exact HQ3.out k h2 h1 | exact H23.out k h1 h2 | exact H23.out k h2 h1 | (have hb := HB3.out k h1; have hb2 := HB2.out k h2; omega) | exact HX2.out (h2 ▸ h1) | exact HX2.out (h1 ▸ h2) | exact HXQ.out (h2 ▸ h1) | exact HXQ.out (h1 ▸ h2) | exact HX3.out (h2 ▸ h1) | exact HX3.out (h1 ▸ h2))).mod Cx10.out (by intro k h1 h2; rcases h2 with h2 | h2 <;> first | omega | (have hb := HB3.out k h1; omega) | (have hb := HB2.out k h2; omega) | exact HQ2.out k h1 h2 | exact HQ2.out k h2 h1 | exact HQ3.out k h1 h2 | exact HQ3.out k h2 h1 | exact H23.out k h1 h2 | exact H23.out k h2 h1 | (have hb := HB3.out k h1; have hb2 := HB2.out k h2; omega) | exact HX2.out (h2 ▸ h1) | exact HX2.out (h1 ▸ h2) | exact HXQ.out (h2 ▸ h1) | exact HXQ.out (h1 ▸ h2) | exact HX3.out (h2 ▸ h1) | exact HX3.out (h1 ▸ h2))).mod Cx12.out (fun _ _ h => h)) (by simpa using (show b.length ≤ 900000 by omega)) ?_
  intro ao7 cap7 u9_7 qnb hm
  have Hx13 := hid (qnb.widen (R' := (fun k => (New w w k) ∨ (New u9_5 u9_7 k))) (fun _ h => h) (Nat.le_refl _))
  have zu9_7 := hm.size
  have HMu9_7 := hid hm
  have Cx14 := hid (Mod.goS (S' := (fun k => (New w w k))) Cx12.out hm (fun _ h => h.elim) (by intro k h0 h2; exact h2))
  clear hm Cx12
  clear act E qnb HNB
  refine QSeq.go fun act E => ?_
  have ea35 : act.eval (.tmp 35) = .slice ao7 (([] : List Int).length + b.length) cap7 := (E.d 7 0)
  refine qc_rows rfl (wanted_none rfl) rfl Try.underlying33 (by decide) (C := #[.slice ao7 (([] : List Int).length + b.length) cap7]) (by simp only [List.map_toArray, List.map_cons, List.map_nil, ea35]; kernel_rfl) ?_
  intro u9_8 qrow hm
  have zl9_8 := qrow.lt
  have Hx15 := hid qrow
  have zu9_8 := hm.size
  have HMu9_8 := hid hm
  have Cx16 := hid (Cx14.out.goE hm)
  clear hm Cx14
  clear act E qrow ea35
  refine QSeq.go fun act E => ?_
  refine qc_appS (A := RwR) (e := 22) rfl (wanted_none rfl) rfl (.slice none 0 0) 24 Try.underlying33 info_Rw (by rfl) (of_decide_eq_true (by kernel_rfl)) (E.d 5 3) (E.d 8 0) (((Hx11.out.mod HMu9_7.out (by intro k h1 h2; omega) (sN HBQ)).mod HMu9_8.out (fun _ _ h => h) (fun _ _ h => h))) (RdS.single (R := (fun k => (New w w k) ∨ (New u9_5 u9_7 k) ∨ (k = u9_7.heap.size))) Hx15.out (RwR.mk (b := b) ((Hx13.out.mod HMu9_8.out (fun _ _ h => h)).rd.widen (R' := (fun k => (New w w k) ∨ (New u9_5 u9_7 k) ∨ (k = u9_7.heap.size))) (by intro k h1; rcases h1 with h1 | h1 <;> first | exact Or.inl h1 | exact Or.inr (Or.inl h1)) (Nat.le_refl _)) (by omega)) (by right; right; rfl)) (by intro k h1 h2; omega) (by simp only [List.nil_append, List.length_cons, List.length_nil]; omega) (by rw [maxLen_val]; simp only [List.nil_append, List.length_cons, List.length_nil]; omega) ?_
  intro ao9 cap9 u9_9 qo1 hm
  have Hx17 := hid (qo1.widen (R' := (fun k => (New u6_4 u9_5 k) ∨ (New u9_8 u9_9 k))) (E' := (fun k => (Q1 k) ∨ (New w w k) ∨ (New u9_5 u9_7 k) ∨ (k = u9_7.heap.size))) (fun _ h => h) (by intro k h1; rcases h1 with h1 | (h1 | h1 | h1) <;> first | omega | exact h1.elim | exact Or.inl h1 | exact Or.inr (Or.inl h1) | exact Or.inr (Or.inr (Or.inl h1)) | exact Or.inr (Or.inr (Or.inr (h1)))))
  have zu9_9 := hm.size
  have HMu9_9 := hid hm
  have Cx18 := hid (Mod.goS (S' := (fun k => (New w w k))) Cx16.out hm (fun _ h => h) (by intro k h0 h2; omega))
  clear hm Cx16
  clear act E qo1 Hx11
  refine QSeq.pure rfl (.pointer (some ⟨x, 0, none⟩)) (fun E => ex_nil rfl (E.d 0 9)) ?_
  refine QSeq.pure rfl (.pointer (some ⟨x, 1, none⟩)) (fun E => ex_field rfl Try.underlying56 rfl (by kernel_rfl) (E.d 10 0)) ?_
  refine QSeq.go fun act E => ?_
  refine qc_store rfl (wanted_none rfl) rfl (((HWL.out.mod Cx8.out (by intro h2; first | omega | (have hb := HB2.out _ h2; omega) | exact HX2.out h2 | exact HXQ.out h2 | exact HX3.out h2)).mod Cx10.out (by intro h2; rcases h2 with h2 | h2 <;> first | omega | (have hb := HB2.out _ h2; omega) | exact HX2.out h2 | exact HXQ.out h2 | exact HX3.out h2)).mod Cx18.out (by intro h2; omega)) (off := 1) (vs := [Value.slice ao9 (([] ++ rs).length + 1) cap9]) (by kernel_rfl) one1 (by simp) (E.d 11 0) (ec (E.d 9 2)) ?_
  intro u9_12 qc0 hm
  have qwl := qc0.eqv (b := #[Value.pointer (some ⟨p, 0, none⟩), Value.slice ao9 (([] ++ rs).length + 1) cap9]) rfl
  clear qc0
  have Hx19 := hid qwl
  have zu9_12 := hm.size
  have HMu9_12 := hid hm
  have Cx20 := hid (Mod.goS (S' := (fun k => (New w w k) ∨ (k = x))) Cx18.out hm (fun _ h => Or.inl h) (by intro k h0 h2; exact Or.inr (h2)))
  clear hm Cx18
  clear act E qwl HWL
  have Hx21 := hid (((Hx13.out.mod HMu9_8.out (fun _ _ h => h)).mod HMu9_9.out (by intro k h1 h2; omega)).mod HMu9_12.out (by intro k h1 h2; omega))
  have Hx22 := hid (Hx17.out.mod HMu9_12.out (by intro k h1 h2; omega) (by intro k h1 h2; rcases h1 with h1 | h1 | h1 | h1 <;> first | omega | (have hb := HBQ.out k h1; omega) | exact HX2.out (h2 ▸ h1) | exact HX2.out (h1 ▸ h2) | exact HXQ.out (h2 ▸ h1) | exact HXQ.out (h1 ▸ h2) | exact HX3.out (h2 ▸ h1) | exact HX3.out (h1 ▸ h2)))
  have Hx23 := hid ((Hx15.out.mod HMu9_9.out (by intro h2; omega)).mod HMu9_12.out (by intro h2; omega))
  clear Hx13 Hx17 Hx15 HMu9_7 HMu9_8 HMu9_9 HMu9_12
  refine QSeq.nil (t' := [_, _, _, _, _, _, _, _, _, _, _, _, _]) rfl ?_
  obtain rfl := HA0.out
  clear HA0 oe0 oe1
  simp only [pz, Act.put, List.setIfInBounds_toArray, List.set_cons_zero, List.set_cons_succ, List.set_nil]
  go_upto_region 10 with (fail)
  refine wp_region_U 40 [4] [0] (fun a0 HA0 => ?_)
  refine QSeq.pure rfl (.int .i64 0) (fun E => ex_assign rfl rfl) ?_
  refine QSeq.nil (t' := [_]) rfl ?_
  obtain rfl := HA0.out
  clear HA0
  simp only [pz, Act.put, List.setIfInBounds_toArray, List.set_cons_zero, List.set_cons_succ]
  clear HOL
  go_wp2
  go_ret
  refine ⟨rfl, u6_4, by omega, by omega, (Hx9.out.mod Cx20.out (by intro k h1 h2; rcases h1 with h1 | h1 <;> rcases h2 with h2 | h2 <;> first | omega | (have hb := HB2.out k h1; omega) | exact HX2.out (h2 ▸ h1) | exact HX2.out (h1 ▸ h2) | exact HXQ.out (h2 ▸ h1) | exact HXQ.out (h1 ▸ h2) | exact HX3.out (h2 ▸ h1) | exact HX3.out (h1 ▸ h2))).widen (by intro k h1; rcases h1 with h1 | h1 <;> first | exact Or.inl h1 | (right; omega)) (by omega), ⟨_, Hx19.out, Or.inl HX1.out, Hx22.out.widen (by intro k h1; rcases h1 with h1 | h1 <;> first | exact ⟨Or.inl (HQ1.out k h1).1, (HQ1.out k h1).2⟩ | exact ⟨Or.inr (by omega), by omega⟩) (by intro k h1; rcases h1 with h1 | h1 | h1 | h1 <;> first | exact ⟨Or.inl (HQ1.out k h1).1, (HQ1.out k h1).2⟩ | exact ⟨Or.inr (by omega), by omega⟩)⟩, (((HM0.out.trans Cx8.out (by intro k h1 h2; first | exact h2 | omega | exact Or.inl h2 | exact Or.inr h2 | exact Or.inr (Or.inl h2) | exact Or.inr (Or.inr h2) | (have hb := HB2.out k h2; omega))).trans Cx10.out (by intro k h1 h2; rcases h2 with h2 | h2 <;> first | exact h2 | omega | exact Or.inl h2 | exact Or.inr h2 | exact Or.inr (Or.inl h2) | exact Or.inr (Or.inr h2) | (have hb := HB2.out k h2; omega))).trans Cx20.out (by intro k h1 h2; rcases h2 with h2 | h2 <;> first | exact h2 | omega | exact Or.inl h2 | exact Or.inr h2 | exact Or.inr (Or.inl h2) | exact Or.inr (Or.inr h2))).mono (fun k _ h => by rcases h with h | h | h <;> first | exact Or.inl (HQ1.out k h).1 | exact Or.inr h | exact Or.inl (h ▸ HX1.out))⟩
end Go.Proofs.Ythojipjleajajaa

/- The document's disk and the log on it as one object. -/
namespace Go.Proofs.Ythojipjleajajaa
open Go Go.RowKit Go.Gv

def GgR (R : Nat → Prop) (N : Nat) (w : World) (x p : Nat) (rs : List (List Int)) (s : DS) : Prop :=
  ∃ R1 R2 : Nat → Prop, (∀ k, R1 k → R k) ∧ (∀ k, R2 k → R k) ∧ (∀ k, R1 k → R2 k → False) ∧ RlR R1 w x p rs ∧ RkR R2 N w p s
section
variable {R R' R3 S : Nat → Prop} {N M : Nat} {w w' : World} {x p : Nat} {rs rs' : List (List Int)} {s : DS} {b bs : List Int} {sy : Nat} {v : Value}
theorem GgR.mod (h : GgR R N w x p rs s) (hm : Mod S w w') (hs : ∀ k, R k → S k → False) : GgR R N w' x p rs s := by
  obtain ⟨R1, R2, h1, h2, h3, h4, h5⟩ := h
  exact ⟨R1, R2, h1, h2, h3, h4.mod hm (fun k hk => hs k (h1 k hk)), h5.mod hm (fun k hk => hs k (h2 k hk))⟩
theorem GgR.widen (h : GgR R N w x p rs s) (hs : ∀ k, R k → R' k) (hM : N ≤ M) : GgR R' M w x p rs s := by
  obtain ⟨R1, R2, h1, h2, h3, h4, h5⟩ := h
  exact ⟨R1, R2, fun k hk => hs k (h1 k hk), fun k hk => hs k (h2 k hk), h3, h4, h5.widen (fun _ h => h) hM⟩
theorem RkR.fresh (hc : Cs w p #[.slice none 0 0, .int .i64 0, .bool false, .bool false, .int .i64 0] 47) : RkR (fun k => k = p) 0 w p dZero :=
  ⟨.slice none 0 0, 0, hc, rfl, ⟨OwnB.nil _, (fun g hg => by cases hg), Nat.le_refl _⟩, Nat.le_refl _, (fun h => by cases h), by decide⟩
theorem GOpen_D (h : RkR R N w p ⟨bs, sy, 0, false, false⟩) (hB : ∀ k, R k → k < w.heap.size) (hN : N ≤ 900000) (hP : Parse bs rs) :
    Calls Try.prog 24 #[.pointer (some ⟨p, 0, none⟩)] w fun e w' => ∃ x, e = .returned (.tuple #[.pointer (some ⟨x, 0, none⟩), .int .i64 0]) ∧ GgR (fun k => R k ∨ New w w' k) N w' x p rs ⟨rowsE rs, (rowsE rs).length, 0, false, false⟩ ∧ Mod R w w' :=
  (ROpen_Q h hB hN hP).mono fun e w' ⟨x, he, hw, hd, hm⟩ => ⟨x, he, ⟨New w w', R, fun _ h => .inr h, fun _ h => .inl h, fun k h1 h2 => by have := hB k h2; unfold New at h1; omega, hw, hd⟩, hm⟩
theorem GOpen_L (h : GgR R N w x p rs ⟨bs, sy, 0, false, false⟩) (hB : ∀ k, R k → k < w.heap.size) (hN : N ≤ 900000) (hP : Parse bs rs') :
    Calls Try.prog 24 #[.pointer (some ⟨p, 0, none⟩)] w fun e w' => ∃ x', e = .returned (.tuple #[.pointer (some ⟨x', 0, none⟩), .int .i64 0]) ∧ GgR (fun k => R k ∨ New w w' k) N w' x' p rs' ⟨rowsE rs', (rowsE rs').length, 0, false, false⟩ ∧ Mod R w w' := by
  obtain ⟨R1, R2, h1, h2, h3, h4, h5⟩ := h
  exact (GOpen_D h5 (fun k hk => hB k (h2 k hk)) hN hP).mono fun e w' ⟨x', he, hl, hm⟩ => ⟨x', he, hl.widen (fun k hk => hk.imp (h2 k) id) (Nat.le_refl _), hm.mono (fun k _ hk => h2 k hk)⟩
theorem GPut_L (h : GgR R N w x p rs s) (hb : RdR R3 M w v b) (hB : ∀ k, R k → k < w.heap.size) (hB3 : ∀ k, R3 k → k < w.heap.size) (h3 : ∀ k, R3 k → R k → False) (hbl : b.length ≤ 65536) (hN : N ≤ 800000) (hrl : rs.length ≤ 900000) :
    Calls Try.prog 29 #[.pointer (some ⟨x, 0, none⟩), v] w fun e w' => e = .returned (.int .i64 (putE s b)) ∧ GgR (fun k => R k ∨ New w w' k) (N + b.length + 10) w' x p (putL rs s b) (putS s b) ∧ Mod R w w' := by
  obtain ⟨R1, R2, h1, h2, h12, h4, h5⟩ := h
  have hel := encR_len (b := b) (by omega)
  have fin : ∀ (E : Int) (rs' : List (List Int)) (s' : DS), putE s b = E → putL rs s b = rs' → putS s b = s' → (Calls Try.prog 29 #[.pointer (some ⟨x, 0, none⟩), v] w fun e w' => e = .returned (.int .i64 E) ∧ RPutTo R1 R2 (N + (encR b).length) w w' x p rs' s') →
      Calls Try.prog 29 #[.pointer (some ⟨x, 0, none⟩), v] w fun e w' => e = .returned (.int .i64 (putE s b)) ∧ GgR (fun k => R k ∨ New w w' k) (N + b.length + 10) w' x p (putL rs s b) (putS s b) ∧ Mod R w w' := by
    intro E rs' s' e1 e2 e3 hc
    rw [e1, e2, e3]
    refine hc.mono fun e w' ⟨he, wm, z1, z2, hd, hw, hm⟩ => ⟨he, ⟨_, _, ?_, ?_, ?_, hw, hd.widen (fun _ h => h) (by omega)⟩, hm.mono fun k _ hk => hk.elim (h1 k) (h2 k)⟩
    · intro k hk; rcases hk with hk | hk
      · exact .inl (h1 k hk)
      · exact .inr ⟨by omega, hk.2⟩
    · intro k hk; rcases hk with hk | hk
      · exact .inl (h2 k hk)
      · exact .inr ⟨hk.1, by omega⟩
    · intro k hk hq
      rcases hk with hk | hk <;> rcases hq with hq | hq
      · exact h12 k hk hq
      · have := hB k (h1 k hk); omega
      · have := hB k (h2 k hq); omega
      · omega
  by_cases hd1 : (dStep s).dead = true
  · have e1 : putE s b = 9 := by unfold putE; rw [if_pos hd1]
    exact fin 9 rs _ e1 (by unfold putL; rw [e1, if_neg (by decide)]) (by unfold putS; rw [if_pos hd1]; unfold dAppend; rw [if_pos hd1]) (RPut_A h4 h5 hb (fun k hk => hB k (h1 k hk)) (fun k hk => hB k (h2 k hk)) hB3 h12 (fun k a c => h3 k a (h1 k c)) (fun k a c => h3 k a (h2 k c)) hbl hN hrl hd1)
  · have hd1' : (dStep s).dead = false := by simpa using hd1
    by_cases hd2 : (dStep (dAppend s (encR b))).dead = true
    · have e1 : putE s b = 9 := by unfold putE; rw [if_neg hd1]; exact dErr_dead hd2
      exact fin 9 rs _ e1 (by unfold putL; rw [e1, if_neg (by decide)]) (by unfold putS; rw [if_neg hd1]; unfold dSync; rw [if_pos hd2]) (RPut_B h4 h5 hb (fun k hk => hB k (h1 k hk)) (fun k hk => hB k (h2 k hk)) hB3 h12 (fun k a c => h3 k a (h1 k c)) (fun k a c => h3 k a (h2 k c)) hbl hN hrl hd1' hd2)
    · have hd2' : (dStep (dAppend s (encR b))).dead = false := by simpa using hd2
      have e1 : putE s b = 0 := by unfold putE; rw [if_neg hd1]; exact dErr_live hd2'
      exact fin 0 (rs ++ [b]) _ e1 (by unfold putL; rw [e1, if_pos rfl]) (by unfold putS; rw [if_neg hd1]) (RPut_C h4 h5 hb (fun k hk => hB k (h1 k hk)) (fun k hk => hB k (h2 k hk)) hB3 h12 (fun k a c => h3 k a (h1 k c)) (fun k a c => h3 k a (h2 k c)) hbl hN hrl hd1' hd2')
theorem GPut_E {E : Int} (h : GgR R N w x p rs s) (hb : RdR R3 M w v b) (hB : ∀ k, R k → k < w.heap.size) (hB3 : ∀ k, R3 k → k < w.heap.size) (h3 : ∀ k, R3 k → R k → False) (hbl : b.length ≤ 65536) (hN : N ≤ 800000) (hrl : rs.length ≤ 900000) (he : putE s b = E) :
    Calls Try.prog 29 #[.pointer (some ⟨x, 0, none⟩), v] w fun e w' => e = .returned (.int .i64 E) ∧ GgR (fun k => R k ∨ New w w' k) (N + b.length + 10) w' x p (putL rs s b) (putS s b) ∧ Mod R w w' := by
  subst he; exact GPut_L h hb hB hB3 h3 hbl hN hrl
theorem Put_LE {E : Int} (h : LgR R N w x p rs s) (hb : RdR R3 M w v b) (hB : ∀ k, R k → k < w.heap.size) (hB3 : ∀ k, R3 k → k < w.heap.size) (h3 : ∀ k, R3 k → R k → False) (hbl : b.length ≤ 65536) (hN : N ≤ 800000) (hrl : rs.length ≤ 900000) (he : putE s b = E) :
    Calls Try.prog 12 #[.pointer (some ⟨x, 0, none⟩), v] w fun e w' => e = .returned (.int .i64 E) ∧ LgR (fun k => R k ∨ New w w' k) (N + b.length + 10) w' x p (putL rs s b) (putS s b) ∧ Mod R w w' := by
  subst he; exact Put_L h hb hB hB3 h3 hbl (by omega) hrl
theorem putL_len (rs : List (List Int)) (s : DS) (b : List Int) : (putL rs s b).length ≤ rs.length + 1 := by
  unfold putL; split <;> simp
theorem GCrash_L {keep : Int} (h : GgR R N w x p rs s) (hB : ∀ k, R k → k < w.heap.size) (hN : N ≤ 900000) (hk : -9223372036854775808 ≤ keep ∧ keep ≤ 9223372036854775807) :
    Calls Try.prog 27 #[.pointer (some ⟨p, 0, none⟩), .int .i64 keep] w fun e w' => e = .returned (.tuple #[]) ∧ GgR R N w' x p rs ⟨(dCrash s keep.toNat).b, (dCrash s keep.toNat).sy, 0, false, false⟩ ∧ Mod R w w' := by
  obtain ⟨R1, R2, h1, h2, h12, h4, h5⟩ := h
  exact (RCrash_Q h5 (fun k hk => hB k (h2 k hk)) hk hN).mono fun e w' ⟨he, hd, hm⟩ => ⟨he, ⟨R1, R2, h1, h2, h12, h4.mod hm h12, hd⟩, hm.mono fun k _ hk => h2 k hk⟩
theorem GFuse_L {n : Int} (h : GgR R N w x p rs s) (hB : ∀ k, R k → k < w.heap.size) (hN : N ≤ 900000) (hk : -9223372036854775808 ≤ n ∧ n ≤ 9223372036854775807) :
    Calls Try.prog 26 #[.pointer (some ⟨p, 0, none⟩), .int .i64 n] w fun e w' => e = .returned (.tuple #[]) ∧ GgR R N w' x p rs (dFuse s n.toNat) ∧ Mod R w w' := by
  obtain ⟨R1, R2, h1, h2, h12, h4, h5⟩ := h
  exact (RFuse_Q h5 (fun k hk => hB k (h2 k hk)) hk hN).mono fun e w' ⟨he, hd, hm⟩ => ⟨he, ⟨R1, R2, h1, h2, h12, h4.mod hm h12, hd⟩, hm.mono fun k _ hk => h2 k hk⟩
theorem LgR.byt (h : LgR R N w x p rs s) : Bytes s.b := by
  obtain ⟨R1, R2, h1, h2, h12, h4, h5⟩ := h
  exact h5.byt
/-- told apart, for what is read of it -/
theorem GgR.open (h : GgR R N w x p rs s) : ∃ (ao : Option Addr) (cap : Nat) (aob : Option Addr) (capb : Nat) (f : Int), Cs w x #[.pointer (some ⟨p, 0, none⟩), .slice ao rs.length cap] 56 ∧ Cs w p #[.slice aob s.b.length capb, .int .i64 s.sy, .bool s.dead, .bool s.lit, .int .i64 f] 47 ∧ R x ∧ R p ∧ RdS RwR R w (.slice ao rs.length cap) rs ∧ RdR R N w (.slice aob s.b.length capb) s.b := by
  obtain ⟨R1, R2, h1, h2, h12, ⟨v, k1, k2, k3⟩, h5⟩ := h
  obtain ⟨Q, aob, capb, f, hk⟩ := h5.open
  obtain ⟨ao, cap, rfl⟩ := k3.shape
  exact ⟨ao, cap, aob, capb, f, k1, hk.kc, h1 x k2, h2 p hk.kp, k3.rd.widen (fun k h => h.elim (fun h => h1 k h.1) (fun h => h1 k h.1)), hk.ko.rd.widen (fun k h => h2 k (hk.kq k h).1) (Nat.le_refl _)⟩
end
end Go.Proofs.Ythojipjleajajaa
