/- disk.Disk: Crash, Cut. -/
import Derived.Test.YtceojplopbjokaaDisk2
set_option maxRecDepth 100000
set_option linter.unusedVariables false
namespace Go.Proofs.Ytceojplopbjokaa
open Go Go.RowKit Go.Gv

theorem Cs_drew {w : World} {g : Nat} {c : Array Value} {e : TypeId} (h : Cs w g c e) : Cs w.drew g c e := h
section
variable {R R' : Nat → Prop} {N M p : Nat} {s : DS} {w : World}
theorem Crash_R {keep : Int} (h : DkR R N w p s) (hN : N ≤ 1000000) (hk : -9223372036854775808 ≤ keep ∧ keep ≤ 9223372036854775807) :
    Calls Try.prog 40 #[.pointer (some ⟨p, 0, none⟩), .int .i64 keep] w fun e w' => e = .returned (.tuple #[]) ∧ DkR R N w' p (dCrash s keep.toNat) ∧ Mod R w w' := by
  obtain ⟨v, h1, h2, h3, h4⟩ := h
  have hsy := h1.2.2.2.1
  have hfu := h1.2.2.2.2
  obtain ⟨ao, cap, rfl, hlc, hcm⟩ := h1.shape
  rw [maxLen_val] at hcm
  have c0 : w.cell? ⟨p, 0, none⟩ = some (.slice ao s.b.length cap) := (h1.1.cell 0).trans rfl
  have c1 : w.cell? ⟨p, 1, none⟩ = some (.int .i64 s.sy) := (h1.1.cell 1).trans rfl
  have c2 : w.cell? ⟨p, 2, none⟩ = some (.int .i64 s.fu) := (h1.1.cell 2).trans rfl
  have c3 : w.cell? ⟨p, 3, none⟩ = some (.bool s.lit) := (h1.1.cell 3).trans rfl
  have c4 : w.cell? ⟨p, 4, none⟩ = some (.bool s.dead) := (h1.1.cell 4).trans rfl
  have f0 := h1.1.frozen 0
  have f1 := h1.1.frozen 1
  have f2 := h1.1.frozen 2
  have f3 := h1.1.frozen 3
  have f4 := h1.1.frozen 4
  have H1 := Lib.hid h1
  have H3 := Lib.hid h3
  have hlN : s.b.length ≤ 1000000 := by omega
  have H4 := Lib.hid h4
  clear h1 h3 h4
  obtain ⟨d, hd⟩ : ∃ d, d = s.b.length - s.sy := ⟨_, rfl⟩
  have hw1 : IntKind.i64.wrap ((s.b.length : Int) - s.sy) = d := by rw [IntWalk.i64_in _ (by omega)]; omega
  have fin : ∀ (n : Nat), n ≤ s.b.length → n = s.sy + min keep.toNat (s.b.length - s.sy) → ∀ w', Cs w' p #[.slice ao n n, .int .i64 n, .int .i64 0, .bool false, .bool false] 85 → Mod (fun k => k = p) w w' → DkR R N w' p (dCrash s keep.toNat) ∧ Mod R w w' := by
    intro n hn e w' hc hm
    have e2 : dCrash s keep.toNat = ⟨s.b.take n, n, 0, false, false⟩ := by unfold dCrash; rw [← e]
    rw [e2]
    have hb := OwnB.cut3 (OwnB.mod H1.out.2.1 hm H1.out.2.2.1) n hn
    have hown : ∀ g, (Value.slice ao n n).ownBlock = some g → (Value.slice ao s.b.length cap).ownBlock = some g := by intro g hg; cases ao <;> simp_all [Value.ownBlock]
    refine ⟨⟨.slice ao n n, ⟨hc, hb, fun g hg => H1.out.2.2.1 g (hown g hg), by simp; omega, by simp⟩, h2, fun g hg => H3.out g (hown g hg), by have := H4.out; simp; omega⟩, hm.mono (fun k _ hk => by subst hk; exact h2)⟩
  have FIN := Lib.hid fin
  clear fin
  have hdi : (0 : Int) ≤ d := by omega
  obtain ⟨n, hn⟩ : ∃ n, n = s.sy + min keep.toNat (s.b.length - s.sy) := ⟨_, rfl⟩
  have hx : (s.sy : Int) + (if (d : Int) < (if 0 < keep then keep else 0) then (d : Int) else if 0 < keep then keep else 0) = n := by repeat' split <;> omega
  have hnl : n ≤ s.b.length := by omega
  have hnc : (n : Int) ≤ cap := by omega
  have hn0 : (0 : Int) ≤ n := by omega
  have HNE := Lib.hid hn
  clear hn hd
  have hw2 : IntKind.i64.wrap ((s.sy : Int) + (if (d : Int) < (if 0 < keep then keep else 0) then (d : Int) else if 0 < keep then keep else 0)) = n := by rw [hx]; exact IntWalk.i64_in _ (by omega)
  clear hx
  go_enter Try.func40, Try.ntmps40
  go_wp2_with fail
  go_region_held3 (fun w' => w'.cell? ⟨p, 0, none⟩ = some (.slice ao s.b.length cap) ∧ w'.cell? ⟨p, 1, none⟩ = some (.int .i64 s.sy)) (go_keep)
    (fail)
  clear hw1 hw2
  go_wp2
  all_goals
    go_end0
    refine ⟨rfl, FIN.out n hnl HNE.out _ ?_ ?_⟩
    · refine Cs_drew ?_
      exact ((((H1.out.1.set 0 (.slice ao n n)).set 1 (.int .i64 n)).set 4 (.bool false)).set 3 (.bool false)).set 2 (.int .i64 0)
    · have m0 := Mod.refl (fun k => k = p) w
      have m1 := m0.setCell (p := ⟨p, 0, none⟩) (fun _ => rfl) (.slice ao n n)
      have m2 := m1.setCell (p := ⟨p, 1, none⟩) (fun _ => rfl) (.int .i64 n)
      have m3 := m2.setCell (p := ⟨p, 4, none⟩) (fun _ => rfl) (.bool false)
      have m4 := m3.setCell (p := ⟨p, 3, none⟩) (fun _ => rfl) (.bool false)
      exact (m4.setCell (p := ⟨p, 2, none⟩) (fun _ => rfl) (.int .i64 0)).drew
end
end Go.Proofs.Ytceojplopbjokaa
