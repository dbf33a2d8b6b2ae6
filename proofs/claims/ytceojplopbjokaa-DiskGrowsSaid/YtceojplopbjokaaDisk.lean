/- disk.Disk: each method, as a function of what the disk holds. -/
import Derived.Test.YtceojplopbjokaaReg
import Derived.Deep.RegionHeld3
import Derived.IntWalk
set_option maxRecDepth 100000
set_option linter.unusedVariables false
namespace Go.Proofs.Ytceojplopbjokaa
open Go Go.RowKit Go.Gv

structure DS where
  b : List Int
  sy : Nat
  fu : Nat
  lit : Bool
  dead : Bool
def dZero : DS := ⟨[], 0, 0, false, false⟩
def dEnds (s : DS) : Bool := s.dead || (s.lit && decide (s.fu = 0))
def dStep (s : DS) : DS := ⟨s.b, s.sy, if !dEnds s && s.lit then s.fu - 1 else s.fu, s.lit, dEnds s⟩
def dAppend (s : DS) (cs : List Int) : DS := if (dStep s).dead then dStep s else { dStep s with b := s.b ++ cs }
def dSync (s : DS) : DS := if (dStep s).dead then dStep s else { dStep s with sy := s.b.length }
def dFuse (s : DS) (n : Nat) : DS := { s with lit := true, fu := n }
def dErr (s : DS) : Int := if (dStep s).dead then 9 else 0
def dCrash (s : DS) (keep : Nat) : DS := ⟨s.b.take (s.sy + min keep (s.b.length - s.sy)), s.sy + min keep (s.b.length - s.sy), 0, false, false⟩
def dCut (s : DS) (n : Nat) : DS := if (dStep s).dead then dStep s else { dStep s with b := s.b.take n, sy := min s.sy n }

def Dk (w : World) (p : Nat) (v : Value) (s : DS) : Prop :=
  Cs w p #[v, .int .i64 s.sy, .int .i64 s.fu, .bool s.lit, .bool s.dead] 85 ∧ OwnB w v s.b ∧ (∀ g, v.ownBlock = some g → g ≠ p) ∧ s.sy ≤ s.b.length ∧ (s.fu : Int) ≤ 9223372036854775807
def DkR (R : Nat → Prop) (N : Nat) (w : World) (p : Nat) (s : DS) : Prop := ∃ v, Dk w p v s ∧ R p ∧ (∀ g, v.ownBlock = some g → R g) ∧ s.b.length ≤ N
section
variable {R R' S : Nat → Prop} {N M : Nat} {w w' : World} {p : Nat} {s s' : DS} {v : Value}
theorem Dk.mod (h : Dk w p v s) (hm : Mod S w w') (hp : ¬ S p) (hv : ∀ g, v.ownBlock = some g → ¬ S g) : Dk w' p v s := ⟨h.1.mod hm hp, OwnB.mod h.2.1 hm hv, h.2.2⟩
theorem DkR.mod (h : DkR R N w p s) (hm : Mod S w w') (hs : ∀ k, R k → S k → False) : DkR R N w' p s := by
  obtain ⟨v, h1, h2, h3, h4⟩ := h
  exact ⟨v, h1.mod hm (hs p h2) (fun g hg => hs g (h3 g hg)), h2, h3, h4⟩
theorem DkR.widen (h : DkR R N w p s) (hs : ∀ k, R k → R' k) (hM : N ≤ M) : DkR R' M w p s := by
  obtain ⟨v, h1, h2, h3, h4⟩ := h
  exact ⟨v, h1, hs p h2, fun g hg => hs g (h3 g hg), Nat.le_trans h4 hM⟩
/-- the cell was turned, the bytes are where they were -/
theorem Dk.turn (h : Dk w p v s) (hc : Cs w' p #[v, .int .i64 s'.sy, .int .i64 s'.fu, .bool s'.lit, .bool s'.dead] 85) (hm : Mod (fun k => k = p) w w') (hb : s'.b = s.b) (hsy : s'.sy ≤ s.b.length) (hfu : (s'.fu : Int) ≤ 9223372036854775807) : Dk w' p v s' := by
  refine ⟨hc, ?_, h.2.2.1, by rw [hb]; exact hsy, hfu⟩
  rw [hb]
  exact OwnB.mod h.2.1 hm h.2.2.1
theorem Dk.shape (h : Dk w p v s) : ∃ ao cap, v = .slice ao s.b.length cap ∧ s.b.length ≤ cap ∧ cap ≤ maxLen := h.2.1.rd.shape
end
theorem OwnB.cut3 {w : World} {ao : Option Addr} {n cap : Nat} {bs : List Int} (h : OwnB w (.slice ao n cap) bs) (k : Nat) (hk : k ≤ bs.length) : OwnB w (.slice ao k k) (bs.take k) := by
  obtain ⟨hl, hE, ⟨hv, hn⟩ | ⟨g, cap', cur, hv, hc, q1, q2, q3, q4, q5⟩⟩ := h
  · simp only [Value.slice.injEq] at hv
    obtain ⟨rfl, _, _⟩ := hv
    obtain rfl : k = 0 := by omega
    exact OwnB.nil w
  · simp only [Value.slice.injEq] at hv
    obtain ⟨rfl, _, rfl⟩ := hv
    have hkl : (bs.take k).length = k := by simp; omega
    refine ⟨by simp, fun u hu => hE u ?_, .inr ⟨g, k, cur, by rw [hkl], hc, by omega, by omega, by omega, ?_, q5⟩⟩
    · rw [List.map_take] at hu; exact List.mem_of_mem_take hu
    · rw [hkl, List.map_take, ← q4, List.take_take]
      congr 1
      omega

theorem New_R (w : World) : Calls Try.prog 35 #[] w fun e w' => ∃ p, e = .returned (.pointer (some ⟨p, 0, none⟩)) ∧ DkR (New w w') 0 w' p dZero ∧ Mod (fun _ => False) w w' := by
  go_enter Try.func35, Try.ntmps35
  go_wp2
  go_ret
  have hc := Cs.new w #[.slice none 0 0, .int .i64 0, .int .i64 0, .bool false, .bool false] 85
  exact ⟨w.heap.size, rfl, ⟨.slice none 0 0, ⟨hc, OwnB.nil _, (fun g hg => by cases hg), Nat.le_refl _, by simp [dZero]⟩, ⟨Nat.le_refl _, hc.lt⟩, (fun g hg => by cases hg), Nat.le_refl _⟩, (Mod.refl _ _).alloc _⟩

theorem step_R {R : Nat → Prop} {N p : Nat} {s : DS} {w : World} (h : DkR R N w p s) :
    Calls Try.prog 58 #[.pointer (some ⟨p, 0, none⟩)] w fun e w' => e = .returned (.bool (!(dStep s).dead)) ∧ DkR R N w' p (dStep s) ∧ Mod R w w' := by
  obtain ⟨v, h1, h2, h3, h4⟩ := h
  have c2 : w.cell? ⟨p, 2, none⟩ = some (.int .i64 s.fu) := (h1.1.cell 2).trans rfl
  have f2 := h1.1.frozen 2
  have c3 : w.cell? ⟨p, 3, none⟩ = some (.bool s.lit) := (h1.1.cell 3).trans rfl
  have f3 := h1.1.frozen 3
  have c4 : w.cell? ⟨p, 4, none⟩ = some (.bool s.dead) := (h1.1.cell 4).trans rfl
  have f4 := h1.1.frozen 4
  have hfu := h1.2.2.2.2
  obtain ⟨b, sy, fu, lit, dead⟩ := s
  dsimp only at *
  have H1 := Lib.hid h1
  have H3 := Lib.hid h3
  have H4 := Lib.hid h4
  clear h1 h3 h4
  have fin : ∀ (s' : DS) (w' : World), Cs w' p #[v, .int .i64 s'.sy, .int .i64 s'.fu, .bool s'.lit, .bool s'.dead] 85 → Mod (fun k => k = p) w w' → s'.b = b → s'.sy = sy → (s'.fu : Int) ≤ 9223372036854775807 → DkR R N w' p s' ∧ Mod R w w' := by
    intro s' w' hc hm hb hsy hf
    have := H1.out.2.2.2.1
    refine ⟨⟨v, H1.out.turn hc hm hb (by rw [hsy]; exact this) hf, h2, H3.out, by rw [hb]; exact H4.out⟩, hm.mono (fun k _ hk => by subst hk; exact h2)⟩
  have FIN := Lib.hid fin
  clear fin
  have run : ∀ (s' : DS), dStep ⟨b, sy, fu, lit, dead⟩ = s' → Calls Try.prog 58 #[.pointer (some ⟨p, 0, none⟩)] w (fun e w' => e = .returned (.bool (!s'.dead)) ∧ DkR R N w' p s' ∧ Mod R w w') → Calls Try.prog 58 #[.pointer (some ⟨p, 0, none⟩)] w (fun e w' => e = .returned (.bool (!(dStep ⟨b, sy, fu, lit, dead⟩).dead)) ∧ DkR R N w' p (dStep ⟨b, sy, fu, lit, dead⟩) ∧ Mod R w w') := by
    intro s' e hh; rw [e]; exact hh
  cases lit <;> cases dead <;> by_cases h0 : fu = 0
  · subst h0
    refine run ⟨b, sy, 0, false, false⟩ (by simp [dStep, dEnds]) ?_
    clear run
    go_enter Try.func58, Try.ntmps58
    go_wp2
    go_ret
    exact ⟨rfl, FIN.out _ _ H1.out.1 (Mod.refl _ _) rfl rfl (by first | exact hfu | (dsimp only; omega))⟩
  · refine run ⟨b, sy, fu, false, false⟩ (by simp [dStep, dEnds, h0]) ?_
    clear run
    go_enter Try.func58, Try.ntmps58
    go_wp2
    go_ret
    exact ⟨rfl, FIN.out _ _ H1.out.1 (Mod.refl _ _) rfl rfl (by first | exact hfu | (dsimp only; omega))⟩
  · subst h0
    refine run ⟨b, sy, 0, false, true⟩ (by simp [dStep, dEnds]) ?_
    clear run
    go_enter Try.func58, Try.ntmps58
    go_wp2
    go_ret
    exact ⟨rfl, FIN.out _ _ H1.out.1 (Mod.refl _ _) rfl rfl (by first | exact hfu | (dsimp only; omega))⟩
  · refine run ⟨b, sy, fu, false, true⟩ (by simp [dStep, dEnds, h0]) ?_
    clear run
    go_enter Try.func58, Try.ntmps58
    go_wp2
    go_ret
    exact ⟨rfl, FIN.out _ _ H1.out.1 (Mod.refl _ _) rfl rfl (by first | exact hfu | (dsimp only; omega))⟩
  · subst h0
    refine run ⟨b, sy, 0, true, true⟩ (by simp [dStep, dEnds]) ?_
    clear run
    go_enter Try.func58, Try.ntmps58
    go_wp2
    go_ret
    exact ⟨rfl, FIN.out _ _ (H1.out.1.set 4 (.bool true)) ((Mod.refl (fun k => k = p) w).setCell (fun _ => rfl) _) rfl rfl (by first | exact hfu | (dsimp only; omega))⟩
  · refine run ⟨b, sy, (fu - 1), true, false⟩ (by simp [dStep, dEnds, h0]) ?_
    clear run
    have hn : ((fu - 1 : Nat) : Int) = (fu : Int) - 1 := by omega
    have HN := Lib.hid hn
    clear hn
    go_enter Try.func58, Try.ntmps58
    go_wp2
    go_ret
    exact ⟨rfl, FIN.out _ _ (by rw [HN.out]; exact H1.out.1.set 2 _) ((Mod.refl (fun k => k = p) w).setCell (fun _ => rfl) _) rfl rfl (by first | exact hfu | (dsimp only; omega))⟩
  · subst h0
    refine run ⟨b, sy, 0, true, true⟩ (by simp [dStep, dEnds]) ?_
    clear run
    go_enter Try.func58, Try.ntmps58
    go_wp2
    go_ret
    exact ⟨rfl, FIN.out _ _ (H1.out.1.set 4 (.bool true)) ((Mod.refl (fun k => k = p) w).setCell (fun _ => rfl) _) rfl rfl (by first | exact hfu | (dsimp only; omega))⟩
  · refine run ⟨b, sy, fu, true, true⟩ (by simp [dStep, dEnds, h0]) ?_
    clear run
    go_enter Try.func58, Try.ntmps58
    go_wp2
    go_ret
    exact ⟨rfl, FIN.out _ _ H1.out.1 (Mod.refl _ _) rfl rfl (by first | exact hfu | (dsimp only; omega))⟩

section
variable {R R' : Nat → Prop} {N M p : Nat} {s : DS} {w : World}
theorem Append_R {v2 : Value} {cs : List Int} (h : DkR R N w p s) (hr : RdR R' M w v2 cs) (hs : ∀ k, R' k → R k → False) (hN : N + M ≤ 1000000) :
    Calls Try.prog 36 #[.pointer (some ⟨p, 0, none⟩), v2] w fun e w' => e = .returned (.int .i64 (dErr s)) ∧ DkR (fun k => R k ∨ New w w' k) (N + M) w' p (dAppend s cs) ∧ Mod R w w' := by
  have K := Lib.hid (step_R h)
  have HR := Lib.hid hr
  have hbN : s.b.length ≤ N := by obtain ⟨_, _, _, _, h4⟩ := h; exact h4
  have hb2 : (dStep s).b = s.b := rfl
  obtain ⟨a2, cap2, rfl⟩ := hr.shape
  have HSY := Lib.hid (show dAppend s cs = if (dStep s).dead then dStep s else { dStep s with b := (dStep s).b ++ cs } from rfl)
  unfold dErr
  generalize dAppend s cs = s2 at *
  have HBN := Lib.hid (show (dStep s).b.length ≤ N from hbN)
  generalize dStep s = t at *
  clear h hr hb2 hbN
  rcases hd : t.dead with _ | _
  · have HS2 := HSY.out
    rw [hd, if_neg (by simp)] at HS2
    have HSE := Lib.hid HS2
    clear HS2
    rw [if_neg (by simp)]
    rw [hd] at K
    go_enter Try.func36, Try.ntmps36
    go_wp2_with fail
    refine K.out.mono ?_
    rintro e w1 ⟨rfl, ⟨v, h1, h2, h3, h4⟩, hm1⟩
    have c0 : w1.cell? ⟨p, 0, none⟩ = some v := (h1.1.cell 0).trans rfl
    have HR1 := Lib.hid (HR.out.mod hm1 hs)
    have H1 := Lib.hid h1
    have H3 := Lib.hid h3
    have H4 := Lib.hid h4
    have HM1 := Lib.hid hm1
    have z1 := hm1.size
    clear h1 h3 h4 hm1
    go_wp2_with (at_builtin; go_must (refine wpList_appB rfl (.tmp 12) (.tmp 13) rfl rfl H1.out.2.1 rfl HR1.out.1 (by have := H4.out; have := HR1.out.2.2; unfold Room; omega) ?_))
    intro ao cap w2 ⟨q1, q2, q3⟩
    have hp : w1.heap.size ≤ w2.heap.size := q2.size
    have hlt := H1.out.1.lt
    have hc := H1.out.1.mod q2 (by intro e; exact H1.out.2.2.1 p e.symm rfl)
    have c0' : w2.cell? ⟨p, 0, none⟩ = some v := (hc.cell 0).trans rfl
    have f0' := hc.frozen 0
    have HC := Lib.hid hc
    have Q1 := Lib.hid q1
    have Q2 := Lib.hid q2
    have Q3 := Lib.hid q3
    clear q1 q2 q3 hc
    go_wp2
    go_ret
    have hne : ∀ g, (Value.slice ao (t.b.length + cs.length) cap).ownBlock = some g → g ≠ p := by
      intro g hg e
      rcases Q3.out with h | ⟨k, h, hk⟩
      · rw [h] at hg; exact H1.out.2.2.1 g hg e
      · rw [h] at hg; simp at hg; omega
    refine ⟨rfl, ⟨.slice ao (t.b.length + cs.length) cap, ?_, .inl h2, ?_, ?_⟩, HM1.out.trans (((Q2.out.mono (S' := R) (fun k _ hk => H3.out k hk.symm)).setCell (fun _ => h2) _)) (fun _ _ h => h)⟩
    · rw [HSE.out]
      have hl := H1.out.2.2.2.1
      refine ⟨HC.out.set 0 _, OwnB.mod Q1.out (S := fun k => k = p) ((Mod.refl (fun k => k = p) _).setCell (fun _ => rfl) _) hne, hne, by simp; omega, H1.out.2.2.2.2⟩
    · intro g hg
      rcases Q3.out with h | ⟨k, h, hk⟩
      · rw [h] at hg; exact .inl (H3.out g hg)
      · rw [h] at hg
        obtain rfl : k = g := by simpa using hg
        have := Own.lt Q1.out h
        unfold New
        exact .inr ⟨by omega, by simpa using this⟩
    · rw [HSE.out]
      have := HR.out.2.2
      have := HBN.out
      simp; omega
  · have HS2 := HSY.out
    rw [hd, if_pos rfl] at HS2
    have HSE := Lib.hid HS2
    clear HS2
    rw [if_pos rfl]
    rw [hd] at K
    go_enter Try.func36, Try.ntmps36
    go_wp2_with fail
    refine K.out.mono ?_
    rintro e w1 ⟨rfl, hD, hm1⟩
    have HD := Lib.hid hD
    have HM1 := Lib.hid hm1
    clear hD hm1
    go_wp2
    go_ret
    rw [HSE.out]
    exact ⟨rfl, HD.out.widen (fun k h => .inl h) (by omega), HM1.out⟩

theorem Sync_R (h : DkR R N w p s) :
    Calls Try.prog 37 #[.pointer (some ⟨p, 0, none⟩)] w fun e w' => e = .returned (.int .i64 (dErr s)) ∧ DkR R N w' p (dSync s) ∧ Mod R w w' := by
  have K := Lib.hid (step_R h)
  have HSY := Lib.hid (show dSync s = if (dStep s).dead then dStep s else { dStep s with sy := (dStep s).b.length } from rfl)
  unfold dErr
  generalize dSync s = s2 at *
  generalize dStep s = t at *
  clear h
  rcases hd : t.dead with _ | _
  · have HS2 := HSY.out
    rw [hd, if_neg (by simp)] at HS2
    have HSE := Lib.hid HS2
    clear HS2
    rw [if_neg (by simp)]
    rw [hd] at K
    go_enter Try.func37, Try.ntmps37
    go_wp2_with fail
    refine K.out.mono ?_
    rintro e w1 ⟨rfl, ⟨v, h1, h2, h3, h4⟩, hm1⟩
    have c0 : w1.cell? ⟨p, 0, none⟩ = some v := (h1.1.cell 0).trans rfl
    have c1 : w1.cell? ⟨p, 1, none⟩ = some (.int .i64 t.sy) := (h1.1.cell 1).trans rfl
    have f1 := h1.1.frozen 1
    obtain ⟨ao, cap, rfl, _, _⟩ := h1.shape
    have H1 := Lib.hid h1
    have H3 := Lib.hid h3
    have H4 := Lib.hid h4
    have HM1 := Lib.hid hm1
    clear h1 h3 h4 hm1
    go_wp2
    go_ret
    refine ⟨rfl, ⟨.slice ao t.b.length cap, ?_, h2, H3.out, by rw [HSE.out]; exact H4.out⟩, HM1.out.setCell (fun _ => h2) _⟩
    rw [HSE.out]
    exact H1.out.turn (H1.out.1.set 1 _) ((Mod.refl (fun k => k = p) _).setCell (fun _ => rfl) _) rfl (Nat.le_refl _) H1.out.2.2.2.2
  · have HS2 := HSY.out
    rw [hd, if_pos rfl] at HS2
    have HSE := Lib.hid HS2
    clear HS2
    rw [if_pos rfl]
    rw [hd] at K
    go_enter Try.func37, Try.ntmps37
    go_wp2_with fail
    refine K.out.mono ?_
    rintro e w1 ⟨rfl, hD, hm1⟩
    have HD := Lib.hid hD
    have HM1 := Lib.hid hm1
    clear hD hm1
    go_wp2
    go_ret
    rw [HSE.out]
    exact ⟨rfl, HD.out, HM1.out⟩
end
end Go.Proofs.Ytceojplopbjokaa
