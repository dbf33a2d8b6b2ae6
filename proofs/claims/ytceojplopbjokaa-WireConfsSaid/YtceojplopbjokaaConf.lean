/- wire.ValidConf, N, Quorum, and the statement WireConfs. -/
import Derived.Test.YtceojplopbjokaaKeep
import Derived.Deep.RegionWith
set_option maxRecDepth 100000
namespace Go.Proofs.Ytceojplopbjokaa
open Go Go.RowKit Go.Gv

def okConf (F C : Int) : Bool := decide (1 ≤ F ∧ F ≤ 21 ∧ 1 ≤ C ∧ C ≤ 100)

theorem ValidConf_any (F C : Int) (w : World) : Calls Try.prog 16 #[.agg #[.int .i64 F, .int .i64 C]] w fun e w' => e = .returned (.bool (okConf F C)) ∧ Mod (fun _ => False) w w' := by
  unfold okConf
  rcases Int.lt_or_le F 1 with h1 | h1
  · have hd : (decide ((1 : Int) ≤ F)) = false := by simp; omega
    go_enter Try.func16, Try.ntmps16
    go_wp2
    go_ret
    exact ⟨ret_bool (by simp; omega), (Mod.refl _ _).alloc _⟩
  rcases Int.lt_or_le 21 F with h2 | h2
  · have hd : (decide (F ≤ (21 : Int))) = false := by simp; omega
    go_enter Try.func16, Try.ntmps16
    go_wp2
    go_ret
    exact ⟨ret_bool (by simp; omega), (Mod.refl _ _).alloc _⟩
  rcases Int.lt_or_le C 1 with h3 | h3
  · have hd : (decide ((1 : Int) ≤ C)) = false := by simp; omega
    go_enter Try.func16, Try.ntmps16
    go_wp2
    go_ret
    exact ⟨ret_bool (by simp; omega), (Mod.refl _ _).alloc _⟩
  rcases Int.lt_or_le 100 C with h4 | h4
  · have hd : (decide (C ≤ (100 : Int))) = false := by simp; omega
    go_enter Try.func16, Try.ntmps16
    go_wp2
    go_ret
    exact ⟨ret_bool (by simp; omega), (Mod.refl _ _).alloc _⟩
  · go_enter Try.func16, Try.ntmps16
    go_wp2
    go_ret
    exact ⟨ret_bool (by simp; omega), (Mod.refl _ _).alloc _⟩

theorem N_any (F C : Int) (h : -1000 ≤ F ∧ F ≤ 1000) (w : World) : Calls Try.prog 17 #[.agg #[.int .i64 F, .int .i64 C]] w fun e w' => e = .returned (.int .i64 (3 * F + 1)) ∧ Mod (fun _ => False) w w' := by
  obtain ⟨h1, h2⟩ := h
  go_enter Try.func17, Try.ntmps17
  go_wp2
  go_ret
  exact ⟨rfl, (Mod.refl _ _).alloc _⟩
theorem Quorum_any (F C : Int) (h : -1000 ≤ F ∧ F ≤ 1000) (w : World) : Calls Try.prog 18 #[.agg #[.int .i64 F, .int .i64 C]] w fun e w' => e = .returned (.int .i64 (2 * F + 1)) ∧ Mod (fun _ => False) w w' := by
  obtain ⟨h1, h2⟩ := h
  go_enter Try.func18, Try.ntmps18
  go_wp2
  go_ret
  exact ⟨rfl, (Mod.refl _ _).alloc _⟩

theorem wakes05 (w : World) : Calls Try.prog 19 #[] w fun e w' => e = .returned (.bool true) ∧ Mod (fun _ => False) w w' := by
  go_enter Try.func19, Try.ntmps19
  go_wp2_with fail
  refine (N_any 1 0 (by omega) _).mono ?_
  rintro e w1 ⟨rfl, hm1⟩
  have HM1 := Lib.hid hm1
  clear hm1
  go_wp2_with fail
  refine (Quorum_any 1 0 (by omega) _).mono ?_
  rintro e w2 ⟨rfl, hm2⟩
  have HM2 := Lib.hid hm2
  clear hm2
  go_wp2
  go_ret
  exact ⟨rfl, HM1.out.trans HM2.out (fun _ _ h => h)⟩

set_option maxHeartbeats 4000000 in
theorem WireConfs_walk (f c : Int) (hf : -9223372036854775808 ≤ f ∧ f ≤ 9223372036854775807) (hc : -9223372036854775808 ≤ c ∧ c ≤ 9223372036854775807) (w : World) :
    Calls Try.prog 3 #[.int .i64 f, .int .i64 c] w fun e w' => e = .returned (.bool true) ∧ Mod (fun _ => False) w w' := by
  have kf := Within_any f 25 (by omega) (by omega) hf
  have kc := Within_any c 104 (by omega) (by omega) hc
  obtain ⟨f1, f2⟩ := within_range f 25 (by omega)
  obtain ⟨c1, c2⟩ := within_range c 104 (by omega)
  generalize within f 25 = F at *
  generalize within c 104 = C at *
  have KF := Lib.hid kf
  have KC := Lib.hid kc
  clear kf kc hf hc
  obtain ⟨F, rfl⟩ : ∃ x, F = x + 1 := ⟨F - 1, by omega⟩
  obtain ⟨C, rfl⟩ : ∃ x, C = x + 1 := ⟨C - 1, by omega⟩
  have hcases : (okConf F C = false ∧ F < 1 ∧ decide ((1 : Int) ≤ F) = false) ∨ (okConf F C = false ∧ 1 ≤ F ∧ 21 < F ∧ decide (F ≤ (21 : Int)) = false) ∨ (okConf F C = false ∧ 1 ≤ F ∧ F ≤ 21 ∧ C < 1 ∧ decide ((1 : Int) ≤ C) = false) ∨
      (okConf F C = false ∧ 1 ≤ F ∧ F ≤ 21 ∧ 1 ≤ C ∧ 100 < C ∧ decide (C ≤ (100 : Int)) = false) ∨ (okConf F C = true ∧ 1 ≤ F ∧ F ≤ 21 ∧ 1 ≤ C ∧ C ≤ 100) := by
    unfold okConf
    rcases Int.lt_or_le F 1 with h1 | h1
    · left; exact ⟨by simp; omega, h1, by simp; omega⟩
    rcases Int.lt_or_le 21 F with h2 | h2
    · right; left; exact ⟨by simp; omega, h1, h2, by simp; omega⟩
    rcases Int.lt_or_le C 1 with h3 | h3
    · right; right; left; exact ⟨by simp; omega, h1, h2, h3, by simp; omega⟩
    rcases Int.lt_or_le 100 C with h4 | h4
    · right; right; right; left; exact ⟨by simp; omega, h1, h2, h3, h4, by simp; omega⟩
    · right; right; right; right; exact ⟨by simp; omega, h1, h2, h3, h4⟩
  have hv := ValidConf_any F C
  rcases hcases with ⟨hb, h1, h2⟩ | ⟨hb, h1, h2, h3⟩ | ⟨hb, h1, h2, h3, h4⟩ | ⟨hb, h1, h2, h3, h4, h5⟩ | ⟨hb, h1, h2, h3, h4⟩
  all_goals
    rw [hb] at hv
    have HV := Lib.hid hv
    clear hv hb
    go_enter Try.func3, Try.ntmps3
    go_wp2_with fail
    refine (KF.out _).mono ?_
    rintro e w1 ⟨rfl, rfl⟩
    go_wp2_with fail
    refine (KC.out _).mono ?_
    rintro e w1 ⟨rfl, rfl⟩
    go_wp2_with fail
    refine (HV.out _).mono ?_
    rintro e w1 ⟨rfl, hm1⟩
    have hcs := (Cs.new w #[.int .i64 F, .int .i64 C] 24).mod hm1 id
    have hcell := (hcs.cell 0).trans rfl
    have hcell1 := (hcs.cell 1).trans rfl
    have hlt := hcs.lt
    have HCS := Lib.hid hcs
    have HM1 := Lib.hid hm1
    clear hm1 hcs
    go_wp2_with fail
    go_region_with (first
      | (go_at_call 17; go_must (refine (N_any F C (by omega) _).mono ?_); rintro e w2 ⟨rfl, hm2⟩; have hcs2 := Cs.mod (Cs.drew HCS.out) hm2 id; have hcell := (hcs2.cell 0).trans rfl; have hcell1 := (hcs2.cell 1).trans rfl; have hlt2 := hcs2.lt; have HCS2 := Lib.hid hcs2; have HM2 := Lib.hid hm2; clear hm2 hcs2)
      | (go_at_call 18; go_must (refine (Quorum_any F C (by omega) _).mono ?_); rintro e w3 ⟨rfl, hm3⟩; have hcs3 := Cs.mod HCS2.out hm3 id; have hcell := (hcs3.cell 0).trans rfl; have hcell1 := (hcs3.cell 1).trans rfl; have hlt3 := hcs3.lt; have HM3 := Lib.hid hm3; clear hm3 hcs3))
    all_goals
      go_wp2_with (go_at_call 19; go_must (refine (wakes05 _).mono ?_); rintro e w4 ⟨rfl, hm4⟩; have HM4 := Lib.hid hm4; clear hm4)
      go_ret
      exact ⟨rfl, (((((((Mod.refl _ _).alloc _).trans HM1.out (fun _ _ h => h)).drew).trans HM2.out (fun _ _ h => h)).trans HM3.out (fun _ _ h => h)).trans HM4.out (fun _ _ h => h))⟩
end Go.Proofs.Ytceojplopbjokaa
