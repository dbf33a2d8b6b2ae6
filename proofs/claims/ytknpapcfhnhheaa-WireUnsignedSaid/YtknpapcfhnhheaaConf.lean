/- wire.ValidConf, N, Quorum, and the statement WireConfs. -/
import Derived.Test.YtknpapcfhnhheaaKeep
import Derived.Deep.RegionWith
set_option maxRecDepth 100000
namespace Go.Proofs.Ytknpapcfhnhheaa
open Go Go.RowKit Go.Gv

def okConf (F C : Int) : Bool := decide (1 ≤ F ∧ F ≤ 21 ∧ 1 ≤ C ∧ C ≤ 100)

theorem ValidConf_any (F C : Int) (w : World) : Calls Try.prog 51 #[.agg #[.int .i64 F, .int .i64 C]] w fun e w' => e = .returned (.bool (okConf F C)) ∧ Mod (fun _ => False) w w' := by
  unfold okConf
  rcases Int.lt_or_le F 1 with h1 | h1
  · have hd : (decide ((1 : Int) ≤ F)) = false := by simp; omega
    go_enter Try.func51, Try.ntmps51
    go_wp2
    go_ret
    exact ⟨ret_bool (by simp; omega), (Mod.refl _ _).alloc _⟩
  rcases Int.lt_or_le 21 F with h2 | h2
  · have hd : (decide (F ≤ (21 : Int))) = false := by simp; omega
    go_enter Try.func51, Try.ntmps51
    go_wp2
    go_ret
    exact ⟨ret_bool (by simp; omega), (Mod.refl _ _).alloc _⟩
  rcases Int.lt_or_le C 1 with h3 | h3
  · have hd : (decide ((1 : Int) ≤ C)) = false := by simp; omega
    go_enter Try.func51, Try.ntmps51
    go_wp2
    go_ret
    exact ⟨ret_bool (by simp; omega), (Mod.refl _ _).alloc _⟩
  rcases Int.lt_or_le 100 C with h4 | h4
  · have hd : (decide (C ≤ (100 : Int))) = false := by simp; omega
    go_enter Try.func51, Try.ntmps51
    go_wp2
    go_ret
    exact ⟨ret_bool (by simp; omega), (Mod.refl _ _).alloc _⟩
  · go_enter Try.func51, Try.ntmps51
    go_wp2
    go_ret
    exact ⟨ret_bool (by simp; omega), (Mod.refl _ _).alloc _⟩

theorem N_any (F C : Int) (h : -1000 ≤ F ∧ F ≤ 1000) (w : World) : Calls Try.prog 48 #[.agg #[.int .i64 F, .int .i64 C]] w fun e w' => e = .returned (.int .i64 (3 * F + 1)) ∧ Mod (fun _ => False) w w' := by
  obtain ⟨h1, h2⟩ := h
  go_enter Try.func48, Try.ntmps48
  go_wp2
  go_ret
  exact ⟨rfl, (Mod.refl _ _).alloc _⟩
theorem Quorum_any (F C : Int) (h : -1000 ≤ F ∧ F ≤ 1000) (w : World) : Calls Try.prog 49 #[.agg #[.int .i64 F, .int .i64 C]] w fun e w' => e = .returned (.int .i64 (2 * F + 1)) ∧ Mod (fun _ => False) w w' := by
  obtain ⟨h1, h2⟩ := h
  go_enter Try.func49, Try.ntmps49
  go_wp2
  go_ret
  exact ⟨rfl, (Mod.refl _ _).alloc _⟩

theorem wakes05 (w : World) : Calls Try.prog 19 #[] w fun e w' => e = .returned (.bool true) ∧ Mod (fun _ => False) w w' := by
  go_enter Try.func19, Try.ntmps19
  go_wp2_with fail
  refine (N_any 1 0 (by omega) _).mono ?_
  rintro e w1 ⟨rfl, hm1⟩
  have HM1 := Lib.hid hm1
  clear hm1
  go_wp2_with fail
  refine (Quorum_any 1 0 (by omega) _).mono ?_
  rintro e w2 ⟨rfl, hm2⟩
  have HM2 := Lib.hid hm2
  clear hm2
  go_wp2
  go_ret
  exact ⟨rfl, HM1.out.trans HM2.out (fun _ _ h => h)⟩

end Go.Proofs.Ytknpapcfhnhheaa
