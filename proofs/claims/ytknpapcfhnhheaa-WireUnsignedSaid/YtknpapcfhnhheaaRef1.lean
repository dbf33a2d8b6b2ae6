/- gavelref01: numbers and rows as bytes. -/
import Derived.Test.YtknpapcfhnhheaaReg
set_option maxRecDepth 100000
set_option linter.unusedVariables false
namespace Go.Proofs.Ytknpapcfhnhheaa
open Go Go.RowKit Go.Gv

theorem mul128 (m : Nat) : IntKind.u8.wrap ((m : Int) % 128 + 128) = (m : Int) % 128 + 128 := by rw [IntKind.wrap_u8]; omega

/-- the blocks of what an append gave: those before, or new ones since w -/
theorem AppB.trans {w0 w w' : World} {v v' : Value} {bs : List Int} (h : AppB w v bs v' w') (hm : Mod (fun _ => False) w0 w) (hf : Fresh w0 v) : Mod (fun _ => False) w0 w' ∧ Fresh w0 v' := by
  obtain ⟨h1, h2, h3⟩ := h
  refine ⟨hm.trans h2 (fun i hi hk => by have := hf i hk.symm; omega), fun g hg => ?_⟩
  rcases h3 with h3 | ⟨k, h3, hk⟩
  · exact hf g (h3 ▸ hg)
  · rw [h3] at hg
    obtain rfl : k = g := by simpa using hg
    exact Nat.le_trans hm.size hk

theorem RefNum_any (n : Nat) (hn : n < U64) (w : World) :
    Calls Try.prog 75 #[.int .u64 n] w fun e w' => ∃ v', e = .returned v' ∧ OwnB w' v' (encN n) ∧ Fresh w v' ∧ Mod (fun _ => False) w w' := by
  have hen := encN_len10 hn
  have HN := Lib.hid hn
  clear hn
  go_enter Try.func75, Try.ntmps75
  go_wp2
  go_loopw [0, 3] (fun t o wr => ∃ (m : Nat) (bs' : List Int) (ao : Option Addr) (cap : Nat), t = .int .u64 m ∧ m ≤ n ∧ bs' ++ encN m = encN n ∧ o = .slice ao bs'.length cap ∧ OwnB wr (.slice ao bs'.length cap) bs' ∧ Fresh w (.slice ao bs'.length cap) ∧ Mod (fun _ => False) w wr) (fun t _ _ => (intOf t).toNat)
  case atStart => exact ⟨n, [], none, 0, rfl, Nat.le_refl _, rfl, rfl, OwnB.nil _, (fun g hg => by cases hg), Mod.refl _ _⟩
  case round =>
    obtain ⟨m, bs', ao, cap, rfl, hm, hbs, rfl, ho, hfr, hmod⟩ := hrel
    have hlen : bs'.length + (encN m).length = (encN n).length := by have := congrArg List.length hbs; simpa using this
    have hpos := encN_pos m
    have hroom : bs'.length + 1 ≤ Room := by unfold Room; omega
    have Hbs := Lib.hid hbs
    have Hfr := Lib.hid hfr
    have Hm := Lib.hid hmod
    have Hr := Lib.hid hroom
    have HO := Lib.hid ho
    clear hbs hfr hmod hlen hroom hpos hen ho
    have hdv : IntKind.u64.wrap ((m : Int) / 128) = (m : Int) / 128 := by
      have := HN.out
      unfold U64 at this
      simp only [IntKind.wrap, IntKind.bits, IntKind.signed]; simp; omega
    by_cases h128 : (128 : Int) ≤ m
    · go_wp2_with (at_builtin; go_must (refine wpList_appB rfl (.tmp 6) (.tmp 11) rfl rfl (HO.out.alloc _) (new := [(m : Int) % 128 + 128]) rfl (RdB_one _ (by omega) (by omega) _) Hr.out ?_))
      intro ao1 cap1 w1 happ
      have hT := AppB.trans happ (Hm.out.alloc _) Hfr.out
      have HT := Lib.hid hT
      have HO1 := Lib.hid happ.1
      clear hT happ
      go_wp2
      go_roundw
      case rel => exact ⟨m / 128, bs' ++ [(m : Int) % 128 + 128], ao1, cap1, by go_num, by omega, by have := Hbs.out; rw [encN_ge (by omega)] at this; simpa using this, by simp, by simpa using HO1.out, by simpa using HT.out.2, HT.out.1⟩
      case measure => simp [intOf]; omega
    · go_wp2_with (at_builtin; go_must (refine wpList_appB rfl (.tmp 15) (.tmp 18) rfl rfl (HO.out.alloc _) (new := [(m : Int)]) rfl (RdB_one _ (by omega) (by omega) _) Hr.out ?_))
      intro ao1 cap1 w1 happ
      have hT := AppB.trans happ (Hm.out.alloc _) Hfr.out
      have HT := Lib.hid hT
      have HO1 := Lib.hid happ.1
      clear hT happ
      go_wp2
      go_ret
      have hb := Hbs.out
      rw [encN_lt (by omega)] at hb
      rw [← hb]
      exact ⟨_, rfl, HO1.out, HT.out.2, HT.out.1⟩

theorem RefNum_R (n : Nat) (hn : n < U64) (w : World) :
    Calls Try.prog 75 #[.int .u64 n] w fun e w' => ∃ v', e = .returned v' ∧ OwR (New w w') 10 w' v' (encN n) ∧ Mod (fun _ => False) w w' :=
  (RefNum_any n hn w).mono fun _ _ ⟨v', he, ho, hf, hm⟩ => ⟨v', he, OwR_of 10 ho hf (encN_len10 hn).2, hm⟩

theorem RefInt_R (n : Int) (hn : -9223372036854775808 ≤ n ∧ n ≤ 9223372036854775807) (w : World) :
    Calls Try.prog 70 #[.int .i64 n] w fun e w' => ∃ v', e = .returned v' ∧ OwR (New w w') 10 w' v' (encI n) ∧ Mod (fun _ => False) w w' := by
  by_cases h0 : 0 ≤ n
  · obtain ⟨k, rfl⟩ := Int.eq_ofNat_of_zero_le h0
    rw [encI_nat]
    have K := Lib.hid (RefNum_R k (by unfold U64; omega))
    go_enter Try.func70, Try.ntmps70
    go_wp2_with (go_at_call 75; go_must (refine (K.out _).mono ?_); rintro e w' ⟨v', rfl, h1, h2⟩; have H1 := Lib.hid h1; have H2 := Lib.hid h2; clear h1 h2)
    go_ret
    exact ⟨v', rfl, H1.out, H2.out⟩
  · have e : encI n = encN 0 := by unfold encI; congr 1; omega
    rw [e]
    have K := Lib.hid (RefNum_R 0 (by unfold U64; omega))
    clear e
    go_enter Try.func70, Try.ntmps70
    go_wp2_with (go_at_call 75; go_must (refine (K.out _).mono ?_); rintro e w' ⟨v', rfl, h1, h2⟩; have H1 := Lib.hid h1; have H2 := Lib.hid h2; clear h1 h2)
    go_ret
    exact ⟨v', rfl, H1.out, H2.out⟩

theorem RefRow_R {R : Nat → Prop} {N : Nat} {v : Value} {bs : List Int} {w : World} (hr : RdR R N w v bs) (hN : N ≤ 900000) :
    Calls Try.prog 102 #[v] w fun e w' => ∃ v', e = .returned v' ∧ OwR (New w w') (N + 10) w' v' (encN bs.length ++ bs) ∧ Mod (fun _ => False) w w' := by
  obtain ⟨ao, cap, rfl⟩ := hr.shape
  have K := Lib.hid (RefInt_R bs.length (by have := hr.2.2; omega))
  have HR := Lib.hid hr
  have HL := Lib.hid (show bs.length < U64 by have := hr.2.2; unfold U64; omega)
  clear hr
  go_enter Try.func102, Try.ntmps102
  go_wp2_with (first
    | (go_at_call 70; go_must (refine (K.out _).mono ?_); rintro e w1 ⟨v1, rfl, h1, h2⟩; rw [encI_nat] at h1; have z1 := h2.size; have H1 := Lib.hid h1; have H2 := Lib.hid h2; have HR1 := Lib.hid (HR.out.mod h2 (fun _ _ h => h)); clear h1 h2)
    | (at_builtin; go_must (refine wpList_appR rfl (.tmp 5) (.tmp 6) rfl rfl H1.out rfl HR1.out (by omega) ?_)))
  intro ao2 cap2 w2 ho hm
  have z2 := hm.size
  have HO := Lib.hid ho
  have HM := Lib.hid hm
  clear ho hm
  go_wp2
  go_ret
  exact ⟨_, rfl, HO.out.widen (fun k h => by unfold New at *; omega) (by omega), H2.out.trans HM.out (fun i hi h => by unfold New at h; omega)⟩
end Go.Proofs.Ytknpapcfhnhheaa
