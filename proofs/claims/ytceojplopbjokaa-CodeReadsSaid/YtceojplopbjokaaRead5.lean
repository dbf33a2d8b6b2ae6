/- code.Reader.Row with any bound, over a text that is not long. -/
import Derived.Test.YtceojplopbjokaaRead4
set_option maxRecDepth 100000
set_option linter.unusedVariables false
namespace Go.Proofs.Ytceojplopbjokaa
open Go Go.RowKit Go.Gv

theorem take_fails2 (r : Nat) (n : Nat) (v : Value) (s : RSt) (w : World) (hR : Rr 87 w r v s) (hn : (n : Int) ≤ 9223372036854775807) (hlt : (s.getD []).length < n) :
    Calls Try.prog 60 #[.pointer (some ⟨r, 0, none⟩), .int .i64 n] w fun e w' => e = .returned (.slice none 0 0) ∧ RrTo 87 w r v none w' := by
  have c0 : w.cell? ⟨r, 0, none⟩ = some v := (hR.1.cell 0).trans rfl
  have HR := Lib.hid (fail_any r v s w hR)
  obtain ⟨ao, cap, rfl, hlc, hcm⟩ := hR.2.1.shape
  clear hR
  generalize (s.getD []).length = m at *
  go_enter Try.func60, Try.ntmps60
  go_wp2_with fail
  refine HR.out.mono ?_
  rintro e w1 ⟨rfl, hR1⟩
  have HR1 := Lib.hid hR1
  clear hR1
  go_wp2
  go_ret
  exact ⟨rfl, HR1.out⟩
theorem take_any2 (r : Nat) (n : Nat) (v : Value) (s : RSt) (w : World) (hR : Rr 87 w r v s) (hn : (n : Int) ≤ 9223372036854775807) (hl : (s.getD []).length ≤ 1000000000) :
    Calls Try.prog 60 #[.pointer (some ⟨r, 0, none⟩), .int .i64 n] w fun e w' => ∃ v', e = .returned v' ∧ OwnB w' v' (rTake n s).1 ∧ Fresh w v' ∧ RrTo 87 w r v (rTake n s).2 w' := by
  by_cases h : (s.getD []).length < n
  · have hs : rTake n s = ([], none) := by
      cases s with
      | none => rfl
      | some l => simp at h; simp [rTake, h]
    rw [hs]
    exact (take_fails2 r n v s w hR hn h).mono fun e w' ⟨he, hR'⟩ => ⟨_, he, OwnB.nil _, fun g hg => (by cases hg), hR'⟩
  · exact take_any r n v s w hR (by omega)
theorem RRow_any2 (r : Nat) (most : Int) (v : Value) (s : RSt) (w : World) (hR : Rr 87 w r v s) (hm : -9223372036854775808 ≤ most ∧ most ≤ 9223372036854775807) (hl : (s.getD []).length ≤ 1000000000) :
    Calls Try.prog 51 #[.pointer (some ⟨r, 0, none⟩), .int .i64 most] w fun e w' => ∃ v', e = .returned v' ∧ OwnB w' v' (rRow most s).1 ∧ Fresh w v' ∧ RrTo 87 w r v (rRow most s).2 w' := by
  have key := RInt_any r most v s w hR hm
  have hn : ((rInt most s).1 : Int) ≤ 9223372036854775807 := by have := rInt_le most s; omega
  have hl2 := rInt_len most s
  have hrow : rRow most s = rTake (rInt most s).1 (rInt most s).2 := rfl
  rw [hrow]
  clear hrow
  generalize rInt most s = res at *
  obtain ⟨n, s1⟩ := res
  dsimp only at *
  have K := Lib.hid key
  have HL := Lib.hid (rTake_len n s1)
  have HL2 := Lib.hid (show (s1.getD []).length ≤ 1000000000 by omega)
  clear key hm hl hl2
  go_enter Try.func51, Try.ntmps51
  go_wp2_with fail
  refine K.out.mono ?_
  rintro e w1 ⟨rfl, v1, hR1, hm1, hb1⟩
  have HM1 := Lib.hid hm1
  have HB1 := Lib.hid hb1
  have HT := Lib.hid (take_any2 r n v1 s1 w1 hR1 hn HL2.out)
  clear hR1 hm1 hb1
  go_wp2_with fail
  refine HT.out.mono ?_
  rintro e w2 ⟨v2, rfl, ho2, hf2, hR2⟩
  have HO2 := Lib.hid ho2
  have HF2 := Lib.hid hf2
  have HR2 := Lib.hid hR2
  clear ho2 hf2 hR2
  go_wp2
  go_ret
  exact ⟨v2, rfl, HO2.out, fun g hg => Nat.le_trans HM1.out.size (HF2.out g hg), RrTo.trans HM1.out HB1.out HR2.out HL.out⟩
theorem RRow_R2 {R : Nat → Prop} {r : Nat} {s : RSt} {w : World} {most : Int} {N : Nat} (hR : RrR 87 R w r s) (hm : -9223372036854775808 ≤ most ∧ most ≤ 9223372036854775807) (hl : (s.getD []).length ≤ N) (hN : N ≤ 1000000) :
    Calls Try.prog 51 #[.pointer (some ⟨r, 0, none⟩), .int .i64 most] w fun e w' => ∃ v', e = .returned v' ∧ OwR (New w w') N w' v' (rRow most s).1 ∧ RrR 87 R w' r (rRow most s).2 ∧ Mod R w w' := by
  obtain ⟨v, h1, h2, h3⟩ := hR
  refine (RRow_any2 r most v s w h1 hm (by omega)).mono fun _ _ ⟨v', he, ho, hf, h⟩ => ⟨v', he, OwR_of _ ho hf ?_, RrTo_R h2 h3 (rRow_len most s) h⟩
  have := rTake_bd2 (rInt most s).1 (rInt most s).2
  have := rInt_len most s
  show (rTake _ _).1.length ≤ _
  omega
end Go.Proofs.Ytceojplopbjokaa
