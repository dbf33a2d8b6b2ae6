/- code.Reader: what each of its methods reads, and what is left. -/
import Derived.Test.YtknpapcfhnhheaaKeep
set_option maxRecDepth 100000
namespace Go.Proofs.Ytknpapcfhnhheaa
open Go Go.RowKit Go.Gv

/-! ### what a reader answers: its state is 'none' once it has failed, else the bytes that are left -/
def decGo : Nat → Nat → List Int → Option (Nat × List Int)
  | _, _, [] => none
  | i, acc, c :: cs =>
    if i = 9 ∧ 1 < c then none
    else if c < 128 then (if c = 0 ∧ 0 < i then none else some (acc + c.toNat * 2 ^ (7 * i), cs))
    else decGo (i + 1) (acc + (c.toNat - 128) * 2 ^ (7 * i)) cs

abbrev RSt := Option (List Int)
def rNum : RSt → Nat × RSt
  | none => (0, none)
  | some bs => match decGo 0 0 bs with
    | some (n, r) => (n, some r)
    | none => (0, none)
def rTake (n : Nat) : RSt → List Int × RSt
  | none => ([], none)
  | some bs => if bs.length < n then ([], none) else (bs.take n, some (bs.drop n))
def rInt (most : Int) (s : RSt) : Nat × RSt :=
  if (rNum s).2.isNone ∨ most < 0 ∨ most < (rNum s).1 then (0, none) else rNum s
def rRow (most : Int) (s : RSt) : List Int × RSt := rTake (rInt most s).1 (rInt most s).2
def rHash (s : RSt) : List Int × RSt :=
  match rTake 32 s with
  | (_, none) => (List.replicate 32 0, none)
  | (b, some r) => (b, some r)

/-- a reader: its bytes, whether it has failed -/
def Rr (T : TypeId) (w : World) (r : Nat) (v : Value) (s : RSt) : Prop := Cs w r #[v, .bool s.isNone] T ∧ RdB w v (s.getD []) ∧ Apart v (s.getD []).length (fun k => k = r)
/-- what has become of a reader: its slice lies where it lay -/
def RrTo (T : TypeId) (w : World) (r : Nat) (v : Value) (s : RSt) (w' : World) : Prop :=
  ∃ v', Rr T w' r v' s ∧ Mod (fun k => k = r) w w' ∧ (0 < (s.getD []).length → v'.ownBlock = v.ownBlock)

theorem Rr.mod {T : TypeId} {S : Nat → Prop} {w w' : World} {r : Nat} {v : Value} {s : RSt} (h : Rr T w r v s) (hm : Mod S w w') (hr : ¬ S r) (hv : Apart v (s.getD []).length S) : Rr T w' r v s :=
  ⟨h.1.mod hm hr, h.2.1.mod hm hv, h.2.2⟩

theorem RrTo.trans {T : TypeId} {w w1 w2 : World} {r : Nat} {v v1 : Value} {s1 s2 : RSt} (hm : Mod (fun k => k = r) w w1) (hb : 0 < (s1.getD []).length → v1.ownBlock = v.ownBlock)
    (h : RrTo T w1 r v1 s2 w2) (hl : (s2.getD []).length ≤ (s1.getD []).length) : RrTo T w r v s2 w2 := by
  obtain ⟨v2, h1, h2, h3⟩ := h
  exact ⟨v2, h1, hm.trans h2 (fun _ _ h => h), fun h => (h3 h).trans (hb (by omega))⟩

theorem Rr_tail {T : TypeId} {w w1 : World} {r : Nat} {v v2 : Value} {s s2 : RSt} (hc : Cs w r #[v, .bool s.isNone] T) (hap : Apart v (s.getD []).length (fun k => k = r))
    (hr2 : RdB w v2 (s2.getD [])) (hb : 0 < (s2.getD []).length → v2.ownBlock = v.ownBlock) (hm : Mod (fun _ => False) w w1) (hl : (s2.getD []).length ≤ (s.getD []).length := by simp) (hs : s.isNone = s2.isNone := by rfl) :
    RrTo T w r v s2 (w1.setCell ⟨r, 0, none⟩ v2) := by
  have hap2 : Apart v2 (s2.getD []).length (fun k => k = r) := fun h g hg => hap (by omega) g (by rw [← hb h]; exact hg)
  rw [hs] at hc
  refine ⟨v2, ⟨(hc.mod hm id).set 0 v2, ?_, hap2⟩, Mod.setCell (S := fun k => k = r) (hm.mono (fun _ _ h => h.elim)) (fun _ => rfl) _, hb⟩
  have m2 : Mod (fun k => k = r) w (w1.setCell ⟨r, 0, none⟩ v2) := Mod.setCell (S := fun k => k = r) (hm.mono (fun _ _ h => h.elim)) (fun _ => rfl) _
  exact hr2.mod m2 hap2

theorem NewReader_any (v : Value) (bs : List Int) (w : World) (hr : RdB w v bs) (hl : bs.length ≤ Room) :
    Calls Try.prog 28 #[v] w fun e w' => ∃ r v', e = .returned (.pointer (some ⟨r, 0, none⟩)) ∧ w.heap.size ≤ r ∧ Rr 125 w' r v' (some bs) ∧ (0 < bs.length → ∀ g, v'.ownBlock = some g → w.heap.size ≤ g) ∧ Mod (fun _ => False) w w' := by
  have Hl := Lib.hid (show ([] : List Int).length + bs.length ≤ Room by simpa using hl)
  clear hl
  go_enter Try.func28, Try.ntmps28
  go_wp2_with (at_builtin; go_must (refine wpList_appB rfl (.const (.slice none 0 0)) (.tmp 3) rfl rfl (OwnB.nil _) (new := bs) rfl hr Hl.out ?_))
  intro ao cap w1 happ
  have HA := Lib.hid happ
  clear happ
  go_wp2
  go_ret
  obtain ⟨h1, h2, h3⟩ := HA.out
  simp only [List.length_nil, Nat.zero_add] at *
  have hfr : ∀ g, (Value.slice ao bs.length cap).ownBlock = some g → w.heap.size ≤ g := by
    intro g hg
    rcases h3 with h3 | ⟨k, h3, hk⟩
    · rw [h3] at hg; cases hg
    · rw [h3] at hg; simp at hg; omega
  have hm : Mod (fun _ => False) w w1 := h2.mono (fun k _ hk => by simp [Value.ownBlock] at hk)
  refine ⟨w1.heap.size, .slice ao bs.length cap, rfl, hm.size, ⟨Cs.new w1 _ _, h1.rd.alloc _, ?_⟩, fun _ => hfr, hm.alloc _⟩
  intro _ g hg e
  have := Own.lt h1 hg
  omega

theorem fail_any (r : Nat) (v : Value) (s : RSt) (w : World) (hR : Rr 125 w r v s) :
    Calls Try.prog 148 #[.pointer (some ⟨r, 0, none⟩)] w fun e w' => e = .returned (.tuple #[]) ∧ RrTo 125 w r v none w' := by
  obtain ⟨hc, hr, ha⟩ := hR
  have c0 : w.cell? ⟨r, 0, none⟩ = some v := (hc.cell 0).trans rfl
  have c1 : w.cell? ⟨r, 1, none⟩ = some (.bool s.isNone) := (hc.cell 1).trans rfl
  have f0 := hc.frozen 0
  have f1 := hc.frozen 1
  have HC := Lib.hid hc
  clear hc hr ha
  go_enter Try.func148, Try.ntmps148
  go_wp2
  go_end0
  refine ⟨rfl, .slice none 0 0, ⟨((HC.out.set 0 (.slice none 0 0)).set 1 (.bool true)), RdB.nil _, Apart.zero⟩, ((Mod.refl (fun k => k = r) w).setCell (fun _ => rfl) _).setCell (fun _ => rfl) _, fun h => by simp at h⟩

theorem OK_any (r : Nat) (v : Value) (s : RSt) (w : World) (hR : Rr 125 w r v s) :
    Calls Try.prog 39 #[.pointer (some ⟨r, 0, none⟩)] w fun e w' => e = .returned (.bool s.isSome) ∧ w = w' := by
  have c1 : w.cell? ⟨r, 1, none⟩ = some (.bool s.isNone) := (hR.1.cell 1).trans rfl
  cases s
  all_goals
    simp only [Option.isNone_none, Option.isNone_some] at c1
    go_enter Try.func39, Try.ntmps39
    go_wp2
    go_ret
    exact ⟨rfl, rfl⟩

theorem Left_any (r : Nat) (v : Value) (s : RSt) (w : World) (hR : Rr 125 w r v s) :
    Calls Try.prog 40 #[.pointer (some ⟨r, 0, none⟩)] w fun e w' => e = .returned (.int .i64 (s.getD []).length) ∧ w = w' := by
  have c0 : w.cell? ⟨r, 0, none⟩ = some v := (hR.1.cell 0).trans rfl
  obtain ⟨ao, cap, rfl, _, _⟩ := hR.2.1.shape
  clear hR
  generalize s.getD [] = bs at *
  go_enter Try.func40, Try.ntmps40
  go_wp2
  go_ret
  exact ⟨rfl, rfl⟩

theorem take_fails (r : Nat) (n : Nat) (v : Value) (s : RSt) (w : World) (hR : Rr 125 w r v s) (_hn : n ≤ 1000000000) (hlt : (s.getD []).length < n) :
    Calls Try.prog 157 #[.pointer (some ⟨r, 0, none⟩), .int .i64 n] w fun e w' => e = .returned (.slice none 0 0) ∧ RrTo 125 w r v none w' := by
  have c0 : w.cell? ⟨r, 0, none⟩ = some v := (hR.1.cell 0).trans rfl
  have HR := Lib.hid (fail_any r v s w hR)
  obtain ⟨ao, cap, rfl, hlc, hcm⟩ := hR.2.1.shape
  clear hR
  generalize (s.getD []).length = m at *
  go_enter Try.func157, Try.ntmps157
  go_wp2_with fail
  refine HR.out.mono ?_
  rintro e w1 ⟨rfl, hR1⟩
  have HR1 := Lib.hid hR1
  clear hR1
  go_wp2
  go_ret
  exact ⟨rfl, HR1.out⟩

theorem take_works (r : Nat) (n : Nat) (v : Value) (s : RSt) (w : World) (hR : Rr 125 w r v s) (hn : n ≤ (s.getD []).length) (hn2 : n ≤ 1000000000) :
    Calls Try.prog 157 #[.pointer (some ⟨r, 0, none⟩), .int .i64 n] w fun e w' => ∃ v', e = .returned v' ∧ OwnB w' v' ((s.getD []).take n) ∧ Fresh w v' ∧ RrTo 125 w r v (s.map (List.drop n)) w' := by
  have c0 : w.cell? ⟨r, 0, none⟩ = some v := (hR.1.cell 0).trans rfl
  have f0 := hR.1.frozen 0
  have hlt := hR.1.lt
  obtain ⟨hc, hr, hap⟩ := hR
  have hgd : (s.map (List.drop n)).getD [] = (s.getD []).drop n := by cases s <;> simp
  have hns : s.isNone = (s.map (List.drop n)).isNone := by cases s <;> rfl
  have HGD := Lib.hid hgd
  have HNS := Lib.hid hns
  clear hgd hns
  have HC := Lib.hid hc
  have HAP0 := Lib.hid hap
  clear hc
  generalize hl : s.getD [] = l at *
  have HL := Lib.hid hl
  clear hl
  obtain ⟨ao, cap, rfl, hlc, hcm⟩ := hr.shape
  rw [maxLen_val] at hcm
  have hup := hr.upto n hn
  have Hroom := Lib.hid (show ([] : List Int).length + (l.take n).length ≤ Room by simp; unfold Room; omega)
  have HUP := Lib.hid hup
  have HR := Lib.hid hr
  have el : (l.take n).length = n := by simp; omega
  have EL := Lib.hid el
  clear hup hr hap el
  go_enter Try.func157, Try.ntmps157
  go_wp2_with (at_builtin; go_must (refine wpList_appB rfl (.const (.slice none 0 0)) (.tmp 20) rfl rfl (OwnB.nil _) (new := l.take n) rfl HUP.out Hroom.out ?_))
  intro ao1 cap1 w1 happ
  have hm : Mod (fun _ => False) w w1 := happ.2.1.mono (fun k _ hk => by simp [Value.ownBlock] at hk)
  have hc1 := HC.out.mod hm id
  have c1 : w1.cell? ⟨r, 0, none⟩ = some (.slice ao l.length cap) := (hc1.cell 0).trans rfl
  have f1 := hc1.frozen 0
  have HA := Lib.hid happ
  have HM := Lib.hid hm
  have HC1 := Lib.hid hc1
  clear happ hm hc1
  go_wp2
  all_goals go_ret
  · obtain ⟨h1, _, h3⟩ := HA.out
    have hcap : cap = n := by assumption
    subst hcap
    have HR2 := HR.out.tail_at cap hn rfl
    refine ⟨.slice ao1 cap cap1, rfl, ?_, ?_, ?_⟩
    · refine Own.other h1 ?_ _
      intro g hg e
      rcases h3 with h3 | ⟨k, h3, hk⟩
      · rw [h3] at hg; cases hg
      · rw [h3] at hg; simp at hg; simp only at e; omega
    · intro g hg
      rcases h3 with h3 | ⟨k, h3, hk⟩
      · rw [h3] at hg; cases hg
      · rw [h3] at hg; simp at hg; omega
    · exact Rr_tail HC.out (by rw [HL.out]; exact HAP0.out) (by rw [HGD.out]; exact HR2) (fun h => by rw [HGD.out] at h; simp at h; omega) HM.out (by rw [HGD.out, HL.out]; simp) HNS.out
  · obtain ⟨h1, _, h3⟩ := HA.out
    have hcap : ¬ cap = n := by assumption
    have HR2 := HR.out.tail_in n hn hcap
    refine ⟨.slice ao1 n cap1, rfl, ?_, ?_, ?_⟩
    · refine Own.other h1 ?_ _
      intro g hg e
      rcases h3 with h3 | ⟨k, h3, hk⟩
      · rw [h3] at hg; cases hg
      · rw [h3] at hg; simp at hg; simp only at e; omega
    · intro g hg
      rcases h3 with h3 | ⟨k, h3, hk⟩
      · rw [h3] at hg; cases hg
      · rw [h3] at hg; simp at hg; omega
    · exact Rr_tail HC.out (by rw [HL.out]; exact HAP0.out) (by rw [HGD.out]; exact HR2) (fun _ => ownBlock_map _ _ _ _ _ _) HM.out (by rw [HGD.out, HL.out]; simp) HNS.out

theorem take_any (r : Nat) (n : Nat) (v : Value) (s : RSt) (w : World) (hR : Rr 125 w r v s) (hn : n ≤ 1000000000) :
    Calls Try.prog 157 #[.pointer (some ⟨r, 0, none⟩), .int .i64 n] w fun e w' => ∃ v', e = .returned v' ∧ OwnB w' v' (rTake n s).1 ∧ Fresh w v' ∧ RrTo 125 w r v (rTake n s).2 w' := by
  by_cases h : (s.getD []).length < n
  · have hs : rTake n s = ([], none) := by
      cases s with
      | none => rfl
      | some l => simp at h; simp [rTake, h]
    rw [hs]
    exact (take_fails r n v s w hR hn h).mono fun e w' ⟨he, hR'⟩ => ⟨_, he, OwnB.nil _, fun g hg => (by cases hg), hR'⟩
  · have hs : rTake n s = ((s.getD []).take n, s.map (List.drop n)) := by
      cases s with
      | none => simp [rTake]
      | some l => simp at h; simp [rTake, h]
    rw [hs]
    exact take_works r n v s w hR (by omega) hn
end Go.Proofs.Ytknpapcfhnhheaa
