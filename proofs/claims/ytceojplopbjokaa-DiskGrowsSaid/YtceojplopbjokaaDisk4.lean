/- disk.Disk: Cut, where the disk does not end. -/
import Derived.Test.YtceojplopbjokaaDisk3
set_option maxRecDepth 100000
set_option linter.unusedVariables false
namespace Go.Proofs.Ytceojplopbjokaa
open Go Go.RowKit Go.Gv

section
variable {R R' : Nat → Prop} {N M p : Nat} {s : DS} {w : World}
theorem Cut_bad {n : Int} (h : DkR R N w p s) (hd : s.dead = false) (hl : s.lit = false) (hn : n < 0 ∨ (s.b.length : Int) < n) (hN : N ≤ 1000000) :
    Calls Try.prog 49 #[.pointer (some ⟨p, 0, none⟩), .int .i64 n] w fun e w' => e = .returned (.int .i64 1) ∧ w = w' := by
  obtain ⟨v, h1, h2, h3, h4⟩ := h
  obtain ⟨ao, cap, rfl, hlc, hcm⟩ := h1.shape
  have c0 : w.cell? ⟨p, 0, none⟩ = some (.slice ao s.b.length cap) := (h1.1.cell 0).trans rfl
  have c3 : w.cell? ⟨p, 3, none⟩ = some (.bool s.lit) := (h1.1.cell 3).trans rfl
  have c4 : w.cell? ⟨p, 4, none⟩ = some (.bool s.dead) := (h1.1.cell 4).trans rfl
  rw [hd] at c4
  rw [hl] at c3
  clear h1 h2 h3 h4 hd hl
  by_cases hn0 : n < 0
  · clear hn
    go_enter Try.func49, Try.ntmps49
    go_wp2
    go_ret
    exact ⟨rfl, rfl⟩
  · have hn1 : (s.b.length : Int) < n := by omega
    clear hn
    go_enter Try.func49, Try.ntmps49
    go_wp2
    go_ret
    exact ⟨rfl, rfl⟩
set_option maxHeartbeats 2000000 in
theorem Cut_ok {n : Nat} (h : DkR R N w p s) (hd : s.dead = false) (hl : s.lit = false) (hn : n ≤ s.b.length) (hN : N ≤ 1000000) :
    Calls Try.prog 49 #[.pointer (some ⟨p, 0, none⟩), .int .i64 n] w fun e w' => e = .returned (.int .i64 0) ∧ DkR R N w' p (dCut s n) ∧ Mod R w w' := by
  have K := Lib.hid (step_R h)
  have hst : dStep s = s := by
    obtain ⟨b, sy, fu, lit, dead⟩ := s
    simp only at hd hl
    subst hd hl
    simp [dStep, dEnds]
  have hcut : dCut s n = { s with b := s.b.take n, sy := min s.sy n } := by unfold dCut; rw [hst, if_neg (by rw [hd]; simp)]
  rw [hcut]
  rw [hst, hd] at K
  obtain ⟨v, h1, h2, h3, h4⟩ := h
  obtain ⟨ao, cap, rfl, hlc, hcm⟩ := h1.shape
  have c0 : w.cell? ⟨p, 0, none⟩ = some (.slice ao s.b.length cap) := (h1.1.cell 0).trans rfl
  have c3 : w.cell? ⟨p, 3, none⟩ = some (.bool s.lit) := (h1.1.cell 3).trans rfl
  have c4 : w.cell? ⟨p, 4, none⟩ = some (.bool s.dead) := (h1.1.cell 4).trans rfl
  rw [hd] at c4
  rw [hl] at c3
  have HD := Lib.hid hd
  have H4 := Lib.hid h4
  clear h1 h3 hst hcut hd hl hlc hcm
  have hni : (n : Int) ≤ s.b.length := by omega
  go_enter Try.func49, Try.ntmps49
  go_wp2_with fail
  refine K.out.mono ?_
  rintro e w1 ⟨rfl, ⟨v, h1, h2', h3, h4'⟩, hm1⟩
  obtain ⟨ao1, cap1, rfl, hlc1, hcm1⟩ := h1.shape
  rw [maxLen_val] at hcm1
  clear c0 c3 c4
  have c0 : w1.cell? ⟨p, 0, none⟩ = some (.slice ao1 s.b.length cap1) := (h1.1.cell 0).trans rfl
  have c1 : w1.cell? ⟨p, 1, none⟩ = some (.int .i64 s.sy) := (h1.1.cell 1).trans rfl
  have f0 := h1.1.frozen 0
  have f1 := h1.1.frozen 1
  have H1 := Lib.hid h1
  have H3 := Lib.hid h3
  have HM1 := Lib.hid hm1
  clear h1 h3 hm1 h4' h4
  have hnc : (n : Int) ≤ cap1 := by omega
  have fin : ∀ (k : Nat), k = min s.sy n → ∀ w', Cs w' p #[.slice ao1 n n, .int .i64 k, .int .i64 s.fu, .bool s.lit, .bool s.dead] 85 → Mod (fun k => k = p) w1 w' → DkR R N w' p { s with b := s.b.take n, sy := min s.sy n } ∧ Mod R w w' := by
    intro k e w' hc hm
    have hb := OwnB.cut3 (OwnB.mod H1.out.2.1 hm H1.out.2.2.1) n hn
    have hown : ∀ g, (Value.slice ao1 n n).ownBlock = some g → (Value.slice ao1 s.b.length cap1).ownBlock = some g := by intro g hg; cases ao1 <;> simp_all [Value.ownBlock]
    refine ⟨⟨.slice ao1 n n, ⟨by rw [← e]; exact hc, hb, fun g hg => H1.out.2.2.1 g (hown g hg), by simp; omega, H1.out.2.2.2.2⟩, h2, fun g hg => H3.out g (hown g hg), by have := H4.out; simp; omega⟩, HM1.out.trans (hm.mono (S' := R) (fun k _ hk => by subst hk; exact h2)) (fun _ _ h => h)⟩
  have FIN := Lib.hid fin
  clear fin
  by_cases hmin : n < s.sy
  · have hmi : (n : Int) < s.sy := by omega
    go_wp2_with fail
    go_region_law (fail)
    all_goals
      go_wp2
      go_ret
      refine ⟨rfl, FIN.out n (by omega) _ ?_ ?_⟩
      · first
          | exact Cs_drew ((H1.out.1.set 0 (.slice ao1 n n)).set 1 (.int .i64 n))
          | exact (H1.out.1.set 0 (.slice ao1 n n)).set 1 (.int .i64 n)
          | exact ((Cs_drew H1.out.1).set 0 (.slice ao1 n n)).set 1 (.int .i64 n)
      · have m0 := Mod.refl (fun k => k = p) w1
        first
          | exact ((m0.setCell (p := ⟨p, 0, none⟩) (fun _ => rfl) (.slice ao1 n n)).setCell (p := ⟨p, 1, none⟩) (fun _ => rfl) (.int .i64 n)).drew
          | exact ((m0.drew.setCell (p := ⟨p, 0, none⟩) (fun _ => rfl) (.slice ao1 n n)).setCell (p := ⟨p, 1, none⟩) (fun _ => rfl) (.int .i64 n))
  · have hmi : ¬ (n : Int) < s.sy := by omega
    go_wp2_with fail
    go_region_law (fail)
    all_goals
      go_wp2
      go_ret
      refine ⟨rfl, FIN.out s.sy (by omega) _ ?_ ?_⟩
      · first
          | exact Cs_drew ((H1.out.1.set 0 (.slice ao1 n n)).set 1 (.int .i64 s.sy))
          | exact (H1.out.1.set 0 (.slice ao1 n n)).set 1 (.int .i64 s.sy)
          | exact ((Cs_drew H1.out.1).set 0 (.slice ao1 n n)).set 1 (.int .i64 s.sy)
      · have m0 := Mod.refl (fun k => k = p) w1
        first
          | exact ((m0.setCell (p := ⟨p, 0, none⟩) (fun _ => rfl) (.slice ao1 n n)).setCell (p := ⟨p, 1, none⟩) (fun _ => rfl) (.int .i64 s.sy)).drew
          | exact ((m0.drew.setCell (p := ⟨p, 0, none⟩) (fun _ => rfl) (.slice ao1 n n)).setCell (p := ⟨p, 1, none⟩) (fun _ => rfl) (.int .i64 s.sy))
end
end Go.Proofs.Ytceojplopbjokaa
