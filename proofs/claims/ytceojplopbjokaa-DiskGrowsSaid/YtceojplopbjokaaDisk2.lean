/- disk.Disk: what is read of it; Fuse, Crash. -/
import Derived.Test.YtceojplopbjokaaDisk
set_option maxRecDepth 100000
set_option linter.unusedVariables false
namespace Go.Proofs.Ytceojplopbjokaa
open Go Go.RowKit Go.Gv

section
variable {R R' : Nat → Prop} {N M p : Nat} {s : DS} {w : World}
theorem Read_R (h : DkR R N w p s) (hN : N ≤ 1000000) :
    Calls Try.prog 41 #[.pointer (some ⟨p, 0, none⟩)] w fun e w' => ∃ v', e = .returned v' ∧ OwR (New w w') N w' v' s.b ∧ Mod (fun _ => False) w w' := by
  obtain ⟨v, h1, h2, h3, h4⟩ := h
  have c0 : w.cell? ⟨p, 0, none⟩ = some v := (h1.1.cell 0).trans rfl
  have HB := Lib.hid h1.2.1.rd
  have H4 := Lib.hid h4
  have Hroom := Lib.hid (show ([] : List Int).length + s.b.length ≤ Room by simp; unfold Room; omega)
  clear h1 h2 h3 h4
  go_enter Try.func41, Try.ntmps41
  go_wp2_with (at_builtin; go_must (refine wpList_appB rfl (.const (.slice none 0 0)) (.tmp 6) rfl rfl (OwnB.nil _) (new := s.b) rfl HB.out Hroom.out ?_))
  intro ao cap w1 happ
  have HA := Lib.hid happ
  clear happ
  go_wp2
  go_ret
  obtain ⟨h1, h2, h3⟩ := HA.out
  simp only [List.length_nil, Nat.zero_add] at *
  have hfr : ∀ g, (Value.slice ao s.b.length cap).ownBlock = some g → w.heap.size ≤ g := by
    intro g hg
    rcases h3 with h3 | ⟨k, h3, hk⟩
    · rw [h3] at hg; cases hg
    · rw [h3] at hg; simp at hg; omega
  exact ⟨_, rfl, OwR_of N h1 hfr H4.out, h2.mono (fun k _ hk => by simp [Value.ownBlock] at hk)⟩
theorem Len_R (h : DkR R N w p s) : Calls Try.prog 50 #[.pointer (some ⟨p, 0, none⟩)] w fun e w' => e = .returned (.int .i64 s.b.length) ∧ w = w' := by
  obtain ⟨v, h1, h2, h3, h4⟩ := h
  have c0 : w.cell? ⟨p, 0, none⟩ = some v := (h1.1.cell 0).trans rfl
  obtain ⟨ao, cap, rfl, _, _⟩ := h1.shape
  clear h1
  go_enter Try.func50, Try.ntmps50
  go_wp2
  go_ret
  exact ⟨rfl, rfl⟩
theorem Synced_R (h : DkR R N w p s) : Calls Try.prog 43 #[.pointer (some ⟨p, 0, none⟩)] w fun e w' => e = .returned (.int .i64 s.sy) ∧ w = w' := by
  obtain ⟨v, h1, h2, h3, h4⟩ := h
  have c1 : w.cell? ⟨p, 1, none⟩ = some (.int .i64 s.sy) := (h1.1.cell 1).trans rfl
  clear h1
  go_enter Try.func43, Try.ntmps43
  go_wp2
  go_ret
  exact ⟨rfl, rfl⟩
theorem Dead_R (h : DkR R N w p s) : Calls Try.prog 39 #[.pointer (some ⟨p, 0, none⟩)] w fun e w' => e = .returned (.bool s.dead) ∧ w = w' := by
  obtain ⟨v, h1, h2, h3, h4⟩ := h
  have c1 : w.cell? ⟨p, 4, none⟩ = some (.bool s.dead) := (h1.1.cell 4).trans rfl
  clear h1
  go_enter Try.func39, Try.ntmps39
  go_wp2
  go_ret
  exact ⟨rfl, rfl⟩
theorem Fuse_R {n : Int} (h : DkR R N w p s) (hn : -9223372036854775808 ≤ n ∧ n ≤ 9223372036854775807) :
    Calls Try.prog 38 #[.pointer (some ⟨p, 0, none⟩), .int .i64 n] w fun e w' => e = .returned (.tuple #[]) ∧ DkR R N w' p (dFuse s n.toNat) ∧ Mod R w w' := by
  obtain ⟨v, h1, h2, h3, h4⟩ := h
  have c2 : w.cell? ⟨p, 2, none⟩ = some (.int .i64 s.fu) := (h1.1.cell 2).trans rfl
  have c3 : w.cell? ⟨p, 3, none⟩ = some (.bool s.lit) := (h1.1.cell 3).trans rfl
  have f2 := h1.1.frozen 2
  have f3 := h1.1.frozen 3
  have H1 := Lib.hid h1
  have H3 := Lib.hid h3
  have H4 := Lib.hid h4
  clear h1 h3 h4
  by_cases hp : 0 < n
  · have HT := Lib.hid (show ((n.toNat : Nat) : Int) = n by omega)
    go_enter Try.func38, Try.ntmps38
    go_wp2
    go_end0
    refine ⟨rfl, ⟨v, H1.out.turn (by have q := (H1.out.1.set 3 (.bool true)).set 2 (.int .i64 n); show Cs _ p #[v, .int .i64 s.sy, .int .i64 ((n.toNat : Nat) : Int), .bool true, .bool s.dead] _; rw [HT.out]; exact q) (((Mod.refl (fun k => k = p) _).setCell (fun _ => rfl) _).setCell (fun _ => rfl) _) rfl H1.out.2.2.2.1 (by show ((n.toNat : Nat) : Int) ≤ _; rw [HT.out]; exact hn.2), h2, H3.out, H4.out⟩, ((Mod.refl R _).setCell (fun _ => h2) _).setCell (fun _ => h2) _⟩
  · have HT := Lib.hid (show n.toNat = 0 by omega)
    have hn0 : n ≤ 0 := by omega
    go_enter Try.func38, Try.ntmps38
    go_wp2
    go_end0
    rw [HT.out]
    refine ⟨rfl, ⟨v, H1.out.turn ((H1.out.1.set 3 (.bool true)).set 2 (.int .i64 0)) (((Mod.refl (fun k => k = p) _).setCell (fun _ => rfl) _).setCell (fun _ => rfl) _) rfl H1.out.2.2.2.1 (by simp [dFuse]), h2, H3.out, H4.out⟩, ((Mod.refl R _).setCell (fun _ => h2) _).setCell (fun _ => h2) _⟩
end
end Go.Proofs.Ytceojplopbjokaa
