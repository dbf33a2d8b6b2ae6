/- gavellaw01: the document's own example. -/
import Derived.Test.YtceojplopbjokaaKeep
import Derived.Test.YtceojplopbjokaaCode1
set_option maxRecDepth 100000
namespace Go.Proofs.Ytceojplopbjokaa
open Go Go.RowKit Go.Gv

theorem enc300 : encN 300 = [172, 2] := by
  rw [encN_ge (by decide), encN_lt (by decide)]; decide

theorem RdB_lit2 (w : World) (x y : Int) (hx : 0 ≤ x ∧ x < 256) (hy : 0 ≤ y ∧ y < 256) (e : TypeId) : RdB (w.alloc (.cells #[bv x, bv y] e)) (.slice (some ⟨w.heap.size, 0, none⟩) 2 2) [x, y] := by
  refine ⟨?_, Rd.mk (Nat.le_refl _) (by rw [maxLen_val]; omega) rfl fun j u hu => ?_⟩
  · intro z hz; simp at hz; rcases hz with rfl | rfl <;> assumption
  · rw [Nat.zero_add, (Cs.new w #[bv x, bv y] e).cell]; simpa using hu

theorem wakes01 (w : World) : Calls Try.prog 24 #[] w fun e w' => e = .returned (.bool true) ∧ Mod (fun _ => False) w w' := by
  have heq := wr_eql
  go_enter Try.func24, Try.ntmps24
  go_wp2_with (first
    | (go_at_call 20; go_must (refine (NewWriter_any _).mono ?_); rintro e w1 ⟨rfl, hW1, hm1⟩; have HM1 := Lib.hid hm1; clear hm1)
    | (go_at_call 21; go_must (refine (Num_any _ 300 _ _ _ hW1 (by unfold U64; omega) (by unfold Room; simp)).mono ?_); rintro e w2 ⟨rfl, v2, hW2, hm2, hf2⟩; have HM2 := Lib.hid hm2; have HF2 := Lib.hid hf2; clear hm2 hf2; rw [enc300] at hW2)
    | (go_at_call 22; go_must (refine (WBytes_any _ _ _ _ hW2 (by unfold Room; simp)).mono ?_); rintro e w3 ⟨ao, cap, rfl, ho3, hf3, hm3⟩; have HM3 := Lib.hid hm3; have HO3 := Lib.hid ho3; clear hm3 hf3 ho3)
    | (go_at_call 23; go_must (refine (Same_any _ _ [172, 2] [172, 2] _ (HO3.out.rd.alloc _) (RdB_lit2 _ 172 2 (by omega) (by omega) _)).mono ?_); rintro e w4 ⟨rfl, hd4⟩; have HD4 := Lib.hid hd4; clear hd4))
  go_ret
  refine ⟨rfl, ?_⟩
  have m1 := HM1.out
  have m2 : Mod (fun _ => False) w w2 := m1.trans (HM2.out.mono (S' := fun k => w.heap.size ≤ k) (fun k _ h => by rcases h with h | h; exact Nat.le_of_eq h.symm; simp [Value.ownBlock] at h)) (fun i hi h => by omega)
  exact ((m2.trans HM3.out (fun _ _ h => h)).alloc _).trans (mod_of_drewN HD4.out (fun _ => False)) (fun _ _ h => h)
end Go.Proofs.Ytceojplopbjokaa
