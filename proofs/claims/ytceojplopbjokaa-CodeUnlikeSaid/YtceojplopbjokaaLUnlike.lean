/- CodeUnlike: the walk. -/
import Derived.Test.YtceojplopbjokaaCodeW
import Derived.Deep.RegionWith
set_option maxRecDepth 100000
namespace Go.Proofs.Ytceojplopbjokaa
open Go Go.RowKit Go.Gv

theorem encN_prefix : ∀ (a b : Nat) (n : Nat), n = min (encN a).length (encN b).length → (encN a).take n = (encN b).take n → a = b := by
  intro a
  induction a using Nat.strongRecOn with
  | _ a ih =>
    intro b n hn h
    by_cases ha : a < 128 <;> by_cases hb : b < 128
    · rw [encN_lt ha, encN_lt hb] at h hn
      simp at hn
      subst hn
      simp at h
      omega
    · rw [encN_lt ha] at h hn
      rw [encN_ge (by omega)] at h hn
      simp at hn
      subst hn
      simp at h
      omega
    · rw [encN_lt hb] at h hn
      rw [encN_ge (by omega)] at h hn
      simp at hn
      subst hn
      simp at h
      omega
    · rw [encN_ge (by omega)] at h hn
      rw [encN_ge (n := b) (by omega)] at h hn
      obtain ⟨k, rfl⟩ : ∃ k, n = k + 1 := ⟨min (encN (a / 128)).length (encN (b / 128)).length, by rw [hn]; simp only [List.length_cons]; omega⟩
      simp only [List.take_succ_cons, List.cons.injEq] at h
      have := ih (a / 128) (by omega) (b / 128) k (by simp only [List.length_cons] at hn; omega) h.2
      omega

theorem unlike_mods {w w1 w2 w3 w4 w5 w6 : World} (h1 : Mod (fun _ => False) w w1) (h2 : Mod (fun _ => False) w1 w2)
    (h3 : Mod (fun k => k = w.heap.size ∨ some k = (Value.slice none 0 0).ownBlock) w2 w3) (h4 : Mod (fun _ => False) w3 w4)
    (h5 : Mod (fun k => k = w1.heap.size ∨ some k = (Value.slice none 0 0).ownBlock) w4 w5) (h6 : Mod (fun _ => False) w5 w6) : Mod (fun _ => False) w w6 := by
  have s1 := h1.size
  refine ((((h1.trans h2 (fun _ _ h => h)).trans h3 ?_).trans h4 (fun _ _ h => h)).trans h5 ?_).trans h6 (fun _ _ h => h)
  · intro i hi h; rcases h with h | h; omega; simp [Value.ownBlock] at h
  · intro i hi h; rcases h with h | h; omega; simp [Value.ownBlock] at h

set_option maxHeartbeats 1000000 in
theorem CodeUnlike_walk (a b : Nat) (ha : a < U64) (hb : b < U64) (w : World) :
    Calls Try.prog 4 #[.int .u64 a, .int .u64 b] w fun e w' => e = .returned (.bool true) ∧ Mod (fun _ => False) w w' := by
  have la := encN_len10 ha
  have lb := encN_len10 hb
  have Ha := Lib.hid ha
  have Hb := Lib.hid hb
  clear ha hb
  have hen : ∀ n, n = min (encN a).length (encN b).length → ∀ (va vb : Value) (w : World), RdB w va ((encN a).take n) → RdB w vb ((encN b).take n) →
      Calls Try.prog 23 #[va, vb] w fun e w' => e = .returned (.bool (decide (a = b))) ∧ ∃ n, w' = w.drewN n := by
    intro n hn va vb w h1 h2
    have := Same_any va vb _ _ w h1 h2
    rwa [show decide ((encN a).take n = (encN b).take n) = decide (a = b) by rw [decide_eq_decide]; exact ⟨encN_prefix a b n hn, fun h => by rw [h]⟩] at this
  have Hen := Lib.hid hen
  clear hen
  rcases Nat.lt_or_ge (encN b).length (encN a).length with hle | hle
  · go_enter Try.func4, Try.ntmps4
    go_wp2_with fail
    refine (NewWriter_any _).mono ?_
    rintro e w1 ⟨rfl, hV1, hm1⟩
    have hlt1 := hV1.1.lt
    have HM1 := Lib.hid hm1
    have HV1 := Lib.hid hV1
    clear hm1 hV1
    go_wp2_with fail
    refine (NewWriter_any _).mono ?_
    rintro e w2 ⟨rfl, hW2, hm2⟩
    have hV2 := HV1.out.mod hm2 id (fun _ _ => id)
    have hlt2 := hW2.1.lt
    have HM2 := Lib.hid hm2
    have HV2 := Lib.hid hV2
    have HW2 := Lib.hid hW2
    clear hm2 hV2 hW2
    go_wp2_with fail
    refine (Num_any _ a _ _ _ HV2.out Ha.out (by unfold Room; simp)).mono ?_
    rintro e w3 ⟨rfl, v3, hV3, hm3, hf3⟩
    have hW3 := HW2.out.mod hm3 (by simp [Value.ownBlock]; omega) (by intro g hg; simp [Value.ownBlock] at hg)
    have HM3 := Lib.hid hm3
    have HV3 := Lib.hid hV3
    have HW3 := Lib.hid hW3
    have HF3 := Lib.hid hf3
    clear hm3 hV3 hW3 hf3
    go_wp2_with fail
    refine (WBytes_any _ _ _ _ HV3.out (by unfold Room; simp; omega)).mono ?_
    rintro e w4 ⟨ax, cx, rfl, hx4, hfx, hm4⟩
    have hW4 := HW3.out.mod hm4 id (fun _ _ => id)
    have HM4 := Lib.hid hm4
    have HX4 := Lib.hid hx4
    have HW4 := Lib.hid hW4
    have HFX := Lib.hid hfx
    clear hm4 hx4 hW4 hfx
    go_wp2_with fail
    refine (Num_any _ b _ _ _ HW4.out Hb.out (by unfold Room; simp)).mono ?_
    rintro e w5 ⟨rfl, v5, hW5, hm5, hf5⟩
    have HM5 := Lib.hid hm5
    have HW5 := Lib.hid hW5
    clear hm5 hW5 hf5
    go_wp2_with fail
    refine (WBytes_any _ _ _ _ HW5.out (by unfold Room; simp; omega)).mono ?_
    rintro e w6 ⟨ay, cy, rfl, hy6, hfy, hm6⟩
    have HM6 := Lib.hid hm6
    have HY6 := Lib.hid hy6
    clear hm6 hy6 hfy
    obtain ⟨_, hcx, _⟩ := HX4.out.rd.len
    simp only [List.nil_append] at hcx HX4
    obtain ⟨_, hcy, _⟩ := HY6.out.rd.len
    simp only [List.nil_append] at hcy HY6
    have RX := Lib.hid (((HX4.out.rd.mod (HM5.out) (by
        intro _ g hg h
        have := HFX.out g (by simpa using hg)
        rcases h with h | h
        · have := HM2.out.size; have := HM3.out.size; omega
        · simp [Value.ownBlock] at h)).mod HM6.out Apart.none).upto (encN b).length (by omega))
    have RY := Lib.hid (HY6.out.rd.upto (encN b).length (by omega))
    go_wp2_with fail
    by_cases hab : a = b
    · have hd : decide (a = b) = true := by simp [hab]
      have he : ((a : Int) == (b : Int)) = true := by simp [hab]
      rw [hd] at Hen
      clear hab hd
      go_region_with (first
        | (go_at_call 23; go_must (refine (Hen.out (encN b).length (by omega) _ _ _ RX.out.drew RY.out.drew).mono ?_); rintro e w7 ⟨rfl, hd7⟩; have HD7 := Lib.hid hd7; clear hd7)
        | (go_at_call 24; go_must (refine (wakes01 _).mono ?_); rintro e w8 ⟨rfl, hm8⟩; have HM8 := Lib.hid hm8; clear hm8))
      go_wp2
      go_ret
      exact ⟨rfl, (unlike_mods HM1.out HM2.out HM3.out HM4.out HM5.out HM6.out).trans ((((Mod.refl _ _).drew).trans (mod_of_drewN HD7.out (fun _ => False)) (fun _ _ h => h)).trans HM8.out (fun _ _ h => h)) (fun _ _ h => h)⟩
    · have hd : decide (a = b) = false := by simp [hab]
      have he : ((a : Int) == (b : Int)) = false := by simp; omega
      rw [hd] at Hen
      clear hab hd
      go_region_with (first
        | (go_at_call 23; go_must (refine (Hen.out (encN b).length (by omega) _ _ _ RX.out.drew RY.out.drew).mono ?_); rintro e w7 ⟨rfl, hd7⟩; have HD7 := Lib.hid hd7; clear hd7)
        | (go_at_call 24; go_must (refine (wakes01 _).mono ?_); rintro e w8 ⟨rfl, hm8⟩; have HM8 := Lib.hid hm8; clear hm8))
      go_wp2
      go_ret
      exact ⟨rfl, (unlike_mods HM1.out HM2.out HM3.out HM4.out HM5.out HM6.out).trans ((((Mod.refl _ _).drew).trans (mod_of_drewN HD7.out (fun _ => False)) (fun _ _ h => h)).trans HM8.out (fun _ _ h => h)) (fun _ _ h => h)⟩
  · go_enter Try.func4, Try.ntmps4
    go_wp2_with fail
    refine (NewWriter_any _).mono ?_
    rintro e w1 ⟨rfl, hV1, hm1⟩
    have hlt1 := hV1.1.lt
    have HM1 := Lib.hid hm1
    have HV1 := Lib.hid hV1
    clear hm1 hV1
    go_wp2_with fail
    refine (NewWriter_any _).mono ?_
    rintro e w2 ⟨rfl, hW2, hm2⟩
    have hV2 := HV1.out.mod hm2 id (fun _ _ => id)
    have hlt2 := hW2.1.lt
    have HM2 := Lib.hid hm2
    have HV2 := Lib.hid hV2
    have HW2 := Lib.hid hW2
    clear hm2 hV2 hW2
    go_wp2_with fail
    refine (Num_any _ a _ _ _ HV2.out Ha.out (by unfold Room; simp)).mono ?_
    rintro e w3 ⟨rfl, v3, hV3, hm3, hf3⟩
    have hW3 := HW2.out.mod hm3 (by simp [Value.ownBlock]; omega) (by intro g hg; simp [Value.ownBlock] at hg)
    have HM3 := Lib.hid hm3
    have HV3 := Lib.hid hV3
    have HW3 := Lib.hid hW3
    have HF3 := Lib.hid hf3
    clear hm3 hV3 hW3 hf3
    go_wp2_with fail
    refine (WBytes_any _ _ _ _ HV3.out (by unfold Room; simp; omega)).mono ?_
    rintro e w4 ⟨ax, cx, rfl, hx4, hfx, hm4⟩
    have hW4 := HW3.out.mod hm4 id (fun _ _ => id)
    have HM4 := Lib.hid hm4
    have HX4 := Lib.hid hx4
    have HW4 := Lib.hid hW4
    have HFX := Lib.hid hfx
    clear hm4 hx4 hW4 hfx
    go_wp2_with fail
    refine (Num_any _ b _ _ _ HW4.out Hb.out (by unfold Room; simp)).mono ?_
    rintro e w5 ⟨rfl, v5, hW5, hm5, hf5⟩
    have HM5 := Lib.hid hm5
    have HW5 := Lib.hid hW5
    clear hm5 hW5 hf5
    go_wp2_with fail
    refine (WBytes_any _ _ _ _ HW5.out (by unfold Room; simp; omega)).mono ?_
    rintro e w6 ⟨ay, cy, rfl, hy6, hfy, hm6⟩
    have HM6 := Lib.hid hm6
    have HY6 := Lib.hid hy6
    clear hm6 hy6 hfy
    obtain ⟨_, hcx, _⟩ := HX4.out.rd.len
    simp only [List.nil_append] at hcx HX4
    obtain ⟨_, hcy, _⟩ := HY6.out.rd.len
    simp only [List.nil_append] at hcy HY6
    have RX := Lib.hid (((HX4.out.rd.mod (HM5.out) (by
        intro _ g hg h
        have := HFX.out g (by simpa using hg)
        rcases h with h | h
        · have := HM2.out.size; have := HM3.out.size; omega
        · simp [Value.ownBlock] at h)).mod HM6.out Apart.none).upto (encN a).length (by omega))
    have RY := Lib.hid (HY6.out.rd.upto (encN a).length (by omega))
    go_wp2_with fail
    by_cases hab : a = b
    · have hd : decide (a = b) = true := by simp [hab]
      have he : ((a : Int) == (b : Int)) = true := by simp [hab]
      rw [hd] at Hen
      clear hab hd
      go_region_with (first
        | (go_at_call 23; go_must (refine (Hen.out (encN a).length (by omega) _ _ _ RX.out.drew RY.out.drew).mono ?_); rintro e w7 ⟨rfl, hd7⟩; have HD7 := Lib.hid hd7; clear hd7)
        | (go_at_call 24; go_must (refine (wakes01 _).mono ?_); rintro e w8 ⟨rfl, hm8⟩; have HM8 := Lib.hid hm8; clear hm8))
      go_wp2
      go_ret
      exact ⟨rfl, (unlike_mods HM1.out HM2.out HM3.out HM4.out HM5.out HM6.out).trans ((((Mod.refl _ _).drew).trans (mod_of_drewN HD7.out (fun _ => False)) (fun _ _ h => h)).trans HM8.out (fun _ _ h => h)) (fun _ _ h => h)⟩
    · have hd : decide (a = b) = false := by simp [hab]
      have he : ((a : Int) == (b : Int)) = false := by simp; omega
      rw [hd] at Hen
      clear hab hd
      go_region_with (first
        | (go_at_call 23; go_must (refine (Hen.out (encN a).length (by omega) _ _ _ RX.out.drew RY.out.drew).mono ?_); rintro e w7 ⟨rfl, hd7⟩; have HD7 := Lib.hid hd7; clear hd7)
        | (go_at_call 24; go_must (refine (wakes01 _).mono ?_); rintro e w8 ⟨rfl, hm8⟩; have HM8 := Lib.hid hm8; clear hm8))
      go_wp2
      go_ret
      exact ⟨rfl, (unlike_mods HM1.out HM2.out HM3.out HM4.out HM5.out HM6.out).trans ((((Mod.refl _ _).drew).trans (mod_of_drewN HD7.out (fun _ => False)) (fun _ _ h => h)).trans HM8.out (fun _ _ h => h)) (fun _ _ h => h)⟩
end Go.Proofs.Ytceojplopbjokaa
