/- code.Reader: what each of its methods reads, and what is left. -/
import Derived.Test.YtfgepphankfbfaaKeep
set_option maxRecDepth 100000
namespace Go.Proofs.Ytfgepphankfbfaa
open Go Go.RowKit Go.Gv

/-! ### what a reader answers: its state is 'none' once it has failed, else the bytes that are left -/
def decGo : Nat → Nat → List Int → Option (Nat × List Int)
  | _, _, [] => none
  | i, acc, c :: cs =>
    if i = 9 ∧ 1 < c then none
    else if c < 128 then (if c = 0 ∧ 0 < i then none else some (acc + c.toNat * 2 ^ (7 * i), cs))
    else decGo (i + 1) (acc + (c.toNat - 128) * 2 ^ (7 * i)) cs

abbrev RSt := Option (List Int)
def rNum : RSt → Nat × RSt
  | none => (0, none)
  | some bs => match decGo 0 0 bs with
    | some (n, r) => (n, some r)
    | none => (0, none)
def rTake (n : Nat) : RSt → List Int × RSt
  | none => ([], none)
  | some bs => if bs.length < n then ([], none) else (bs.take n, some (bs.drop n))
def rInt (most : Int) (s : RSt) : Nat × RSt :=
  if (rNum s).2.isNone ∨ most < 0 ∨ most < (rNum s).1 then (0, none) else rNum s
def rRow (most : Int) (s : RSt) : List Int × RSt := rTake (rInt most s).1 (rInt most s).2
def rHash (s : RSt) : List Int × RSt :=
  match rTake 32 s with
  | (_, none) => (List.replicate 32 0, none)
  | (b, some r) => (b, some r)

/-- a reader: its bytes, whether it has failed -/
def Rr (T : TypeId) (w : World) (r : Nat) (v : Value) (s : RSt) : Prop := Cs w r #[v, .bool s.isNone] T ∧ RdB w v (s.getD []) ∧ Apart v (s.getD []).length (fun k => k = r)
/-- what has become of a reader: its slice lies where it lay -/
def RrTo (T : TypeId) (w : World) (r : Nat) (v : Value) (s : RSt) (w' : World) : Prop :=
  ∃ v', Rr T w' r v' s ∧ Mod (fun k => k = r) w w' ∧ (0 < (s.getD []).length → v'.ownBlock = v.ownBlock)

theorem Rr.mod {T : TypeId} {S : Nat → Prop} {w w' : World} {r : Nat} {v : Value} {s : RSt} (h : Rr T w r v s) (hm : Mod S w w') (hr : ¬ S r) (hv : Apart v (s.getD []).length S) : Rr T w' r v s :=
  ⟨h.1.mod hm hr, h.2.1.mod hm hv, h.2.2⟩

theorem RrTo.trans {T : TypeId} {w w1 w2 : World} {r : Nat} {v v1 : Value} {s1 s2 : RSt} (hm : Mod (fun k => k = r) w w1) (hb : 0 < (s1.getD []).length → v1.ownBlock = v.ownBlock)
    (h : RrTo T w1 r v1 s2 w2) (hl : (s2.getD []).length ≤ (s1.getD []).length) : RrTo T w r v s2 w2 := by
  obtain ⟨v2, h1, h2, h3⟩ := h
  exact ⟨v2, h1, hm.trans h2 (fun _ _ h => h), fun h => (h3 h).trans (hb (by omega))⟩

theorem Rr_tail {T : TypeId} {w w1 : World} {r : Nat} {v v2 : Value} {s s2 : RSt} (hc : Cs w r #[v, .bool s.isNone] T) (hap : Apart v (s.getD []).length (fun k => k = r))
    (hr2 : RdB w v2 (s2.getD [])) (hb : 0 < (s2.getD []).length → v2.ownBlock = v.ownBlock) (hm : Mod (fun _ => False) w w1) (hl : (s2.getD []).length ≤ (s.getD []).length := by simp) (hs : s.isNone = s2.isNone := by rfl) :
    RrTo T w r v s2 (w1.setCell ⟨r, 0, none⟩ v2) := by
  have hap2 : Apart v2 (s2.getD []).length (fun k => k = r) := fun h g hg => hap (by omega) g (by rw [← hb h]; exact hg)
  rw [hs] at hc
  refine ⟨v2, ⟨(hc.mod hm id).set 0 v2, ?_, hap2⟩, Mod.setCell (S := fun k => k = r) (hm.mono (fun _ _ h => h.elim)) (fun _ => rfl) _, hb⟩
  have m2 : Mod (fun k => k = r) w (w1.setCell ⟨r, 0, none⟩ v2) := Mod.setCell (S := fun k => k = r) (hm.mono (fun _ _ h => h.elim)) (fun _ => rfl) _
  exact hr2.mod m2 hap2

end Go.Proofs.Ytfgepphankfbfaa
