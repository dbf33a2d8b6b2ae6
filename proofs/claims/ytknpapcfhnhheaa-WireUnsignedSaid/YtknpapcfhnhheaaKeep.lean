/- Package gavelkeep: what its functions over numbers and bytes do. -/
import Derived.Test.YtknpapcfhnhheaaBytes
import Derived.Deep.DeepMust
set_option maxRecDepth 100000
namespace Go.Proofs.Ytknpapcfhnhheaa
open Go Go.RowKit Go.Gv

def within (v n : Int) : Int := if n < 1 then 0 else v % n

theorem within_tmod (v n : Int) (hn : 1 ≤ n) : within v n = if v.tmod n < 0 then v.tmod n + n else v.tmod n := by
  unfold within
  rw [if_neg (by omega)]
  have h1 := Int.emod_nonneg v (b := n) (by omega)
  have h2 := Int.emod_lt_of_pos v (b := n) (by omega)
  rw [Int.tmod_eq_emod]
  split <;> split <;> omega
theorem within_range (v n : Int) (hn : 1 ≤ n) : 0 ≤ within v n ∧ within v n < n := by
  unfold within
  rw [if_neg (by omega)]
  exact ⟨Int.emod_nonneg v (by omega), Int.emod_lt_of_pos v (by omega)⟩

theorem Within_any (v n : Int) (hn : 1 ≤ n) (hn2 : n ≤ 9223372036854775807) (_hv : -9223372036854775808 ≤ v ∧ v ≤ 9223372036854775807) (w : World) :
    Calls Try.prog 13 #[.int .i64 v, .int .i64 n] w fun e w' => e = .returned (.int .i64 (within v n)) ∧ w = w' := by
  have hh := within_tmod v n hn
  have hl : -n < v.tmod n ∧ v.tmod n < n := by
    have h1 := Int.emod_nonneg v (b := n) (by omega)
    have h2 := Int.emod_lt_of_pos v (b := n) (by omega)
    rw [Int.tmod_eq_emod]
    split <;> omega
  have HH := Lib.hid hh; clear hh
  go_enter Try.func13, Try.ntmps13
  go_wp2
  all_goals go_ret
  · exact ⟨ret_int (by rw [HH.out, if_pos (by assumption)]), rfl⟩
  · exact ⟨ret_int (by rw [HH.out, if_neg (by omega)]), rfl⟩

theorem Copy_any (v : Value) (bs : List Int) (w : World) (hr : RdB w v bs) (hl : bs.length ≤ Room) :
    Calls Try.prog 29 #[v] w fun e w' => ∃ ao cap, e = .returned (.slice ao bs.length cap) ∧ OwnB w' (.slice ao bs.length cap) bs ∧ Fresh w (.slice ao bs.length cap) ∧ Mod (fun _ => False) w w' := by
  have Hl := Lib.hid (show ([] : List Int).length + bs.length ≤ Room by simpa using hl)
  clear hl
  go_enter Try.func29, Try.ntmps29
  go_wp2_with (at_builtin; refine wpList_appB rfl (.const (.slice none 0 0)) (.tmp 3) rfl rfl (OwnB.nil _) (new := bs) rfl hr Hl.out ?_)
  intro ao cap w1 happ
  have HA := Lib.hid happ
  clear happ
  go_wp2
  go_ret
  obtain ⟨h1, h2, h3⟩ := HA.out
  simp only [List.length_nil, Nat.zero_add] at *
  refine ⟨ao, cap, rfl, h1, ?_, h2.mono (fun k _ hk => by simp [Value.ownBlock] at hk)⟩
  intro g hg
  rcases h3 with h3 | ⟨k, h3, hk⟩
  · rw [h3] at hg; cases hg
  · rw [h3] at hg; simp at hg; omega

theorem Cut_any (ao : Option Addr) (len cap : Nat) (bs : List Int) (n : Nat) (w : World) (hr : RdB w (.slice ao len cap) bs) (hn : n ≤ 1000000) :
    Calls Try.prog 26 #[.slice ao len cap, .int .i64 n] w fun e w' => ∃ ao cap, e = .returned (.slice ao (bs.take n).length cap) ∧ OwnB w' (.slice ao (bs.take n).length cap) (bs.take n) ∧ Fresh w (.slice ao (bs.take n).length cap) ∧ Mod (fun _ => False) w w' := by
  obtain ⟨rfl, hlc, hcm⟩ := hr.len
  rw [maxLen_val] at hcm
  by_cases h : bs.length ≤ n
  · have key := fun w => fun hr => Copy_any (.slice ao bs.length cap) (bs.take n) w hr (by simp; unfold Room; omega)
    have hr' : RdB w (.slice ao bs.length cap) (bs.take n) := by rw [List.take_of_length_le h]; exact hr
    have K := Lib.hid key
    clear key
    generalize bs.take n = ds at *
    go_enter Try.func26, Try.ntmps26
    go_wp2_with (go_at_call 29; go_must (refine (K.out _ hr').mono ?_); rintro e w1 ⟨ao1, cap1, rfl, h1, h2, h3⟩; have H1 := Lib.hid h1; have H2 := Lib.hid h2; have H3 := Lib.hid h3; clear h1 h2 h3)
    go_ret
    exact ⟨ao1, cap1, rfl, H1.out, H2.out, H3.out⟩
  · have key := fun w => fun hr => Copy_any (.slice ao n cap) (bs.take n) w hr (by simp; unfold Room; omega)
    have hr' : RdB w (.slice ao n cap) (bs.take n) := hr.upto n (by omega)
    have K := Lib.hid key
    clear key
    generalize bs.take n = ds at *
    go_enter Try.func26, Try.ntmps26
    go_wp2_with (go_at_call 29; go_must (refine (K.out _ hr').mono ?_); rintro e w1 ⟨ao1, cap1, rfl, h1, h2, h3⟩; have H1 := Lib.hid h1; have H2 := Lib.hid h2; have H3 := Lib.hid h3; clear h1 h2 h3)
    go_ret
    exact ⟨ao1, cap1, rfl, H1.out, H2.out, H3.out⟩

theorem list_eq_of_get {a b : List Int} (hl : a.length = b.length) (h : ∀ j (h1 : j < a.length) (h2 : j < b.length), a[j] = b[j]) : a = b := List.ext_getElem hl h

theorem Same_any (va vb : Value) (a b : List Int) (w : World) (ha : RdB w va a) (hb : RdB w vb b) :
    Calls Try.prog 18 #[va, vb] w fun e w' => e = .returned (.bool (decide (a = b))) ∧ ∃ n, w' = w.drewN n := by
  by_cases hl : a.length = b.length
  · rcases ha.form with ⟨rfl, ao, ca, rfl, _⟩ | ⟨ga, oa, ca, na, rfl, la, ma, hca⟩
    · obtain rfl : b = [] := List.eq_nil_of_length_eq_zero (by simpa using hl.symm)
      obtain ⟨bo, cb, rfl, _, _⟩ := hb.shape
      go_enter Try.func18, Try.ntmps18
      go_wp2
      refine wp_loop_rounds 1 ?_
      rw [rounds_succ]
      go_wp2
      go_ret
      exact ⟨ret_bool (by simp), 0, rfl⟩
    rcases hb.form with ⟨rfl, bo, cb, rfl, _⟩ | ⟨gb, ob, cb, nb, rfl, lb, mb, hcb⟩
    · rw [List.length_nil] at hl; omega
    · rw [maxLen_val] at ma mb
      have hle : ((a.length : Int) != b.length) = false := by simp [hl]
      have Hl := Lib.hid hl
      clear hl ha hb
      go_enter Try.func18, Try.ntmps18
      go_wp2
      go_loopw [5] (fun i wr => ∃ k : Nat, k ≤ a.length ∧ i = .int .i64 k ∧ a.take k = b.take k ∧ ∃ n, wr = w.drewN n) (fun i _ => a.length - (intOf i).toNat)
      case atStart => exact ⟨0, Nat.zero_le _, rfl, rfl, 0, rfl⟩
      case round =>
        obtain ⟨k, hk, rfl, htk, n, rfl⟩ := hrel
        have Htk := Lib.hid htk
        clear htk
        by_cases hlt : k < a.length
        · have hltb : k < b.length := by rw [← Hl.out]; exact hlt
          have c1 := hca k hlt
          have c2 := hcb k hltb
          clear hca hcb
          by_cases he : a[k] = b[k]
          · have hne : (a[k] != b[k]) = false := by simp [he]
            have He := Lib.hid he
            clear he
            go_wp2
            go_quiet (fail)
            go_wp2
            go_roundw
            case rel => exact ⟨k + 1, by omega, by go_num, by rw [List.take_succ_eq_append_getElem hlt, List.take_succ_eq_append_getElem hltb, Htk.out, He.out], _, rfl⟩
            case measure => simp [intOf]; omega
          · have hne : (a[k] != b[k]) = true := by simp [he]
            have He := Lib.hid he
            clear he
            go_wp2
            go_quiet (fail)
            go_wp2
            go_ret
            refine ⟨ret_bool ?_, _, World.drewN_drewN _ _ _⟩
            have : ¬ a = b := fun h => He.out (by subst h; rfl)
            simp [this]
        · go_wp2
          go_ret
          refine ⟨ret_bool ?_, _, rfl⟩
          have h1 := Htk.out
          rw [List.take_of_length_le (by omega), List.take_of_length_le (by have := Hl.out; omega)] at h1
          simp [h1]
  · have hle : ((a.length : Int) != b.length) = true := by simp; omega
    have hd : decide (a = b) = false := by simp; intro h; subst h; exact hl rfl
    rw [hd]
    clear hd hl
    obtain ⟨ao, ca, rfl, _, _⟩ := ha.shape
    obtain ⟨bo, cb, rfl, _, _⟩ := hb.shape
    clear ha hb
    go_enter Try.func18, Try.ntmps18
    go_wp2
    go_ret
    exact ⟨rfl, 0, rfl⟩
end Go.Proofs.Ytknpapcfhnhheaa
