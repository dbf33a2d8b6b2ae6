/- Texts that are built one behind the other: XKeep2, XCodeW, XPlain1, XReg, XLift, XFits, XIdx, XArith, XQ2, XQ4, XQ5, XS, XRef1, XJoin, XQ3, XDisk, XDisk2, XDisk3, XDisk4, XActs, XLoc, XPlain2, XWalP, XVa0, XVa1, XVa2, XVq. No condition. -/
import Derived.Test.YthojipjleajajaaWaP1
import Derived.Laws.CopyOwn
import Derived.OpenShut
import Derived.ProofKit
import Derived.ChangeOld
import Derived.Deep.Slices
import Derived.Laws.Small
import Derived.Lib.ConvBytes
import Derived.Deep.RegionHeld3
import Derived.IntWalk
import Derived.Deep.Cut
import Derived.Deep.CutBlock
set_option maxRecDepth 100000
set_option linter.unusedVariables false
/- Package gavelkeep: bytes that are lent, that are intact, that are spoilt. -/
namespace Go.Proofs.Ythojipjleajajaa
open Go Go.RowKit Go.Gv

def lendc (bs : List Int) (k : Nat) : List Int := bs ++ (List.replicate k 85 ++ List.replicate (3 - k) 0)
/-- bytes that are lent: three more lie behind them -/
def Lent (w : World) (v : Value) (bs : List Int) : Prop := ∃ g, v = .slice (some ⟨g, 0, none⟩) bs.length (bs.length + 3) ∧ Cs w g ((lendc bs 3).map bv).toArray 5

/-- writes into a slice, and behind it: its block alone turns -/
theorem Spoil_any (v : Value) (bs : List Int) (w : World) (ho : OwnB w v bs) :
    Calls Try.prog 30 #[v] w fun e w' => e = .returned (.tuple #[]) ∧ Mod (fun k => some k = v.ownBlock) w w' := by
  obtain ⟨_, _, ⟨rfl, h0⟩ | ⟨g, cap, cur, rfl, hc, hnc, hcm, hcs, htake, hE⟩⟩ := ho
  · go_enter Try.func30, Try.ntmps30
    go_wp2
    refine wp_loop_rounds 1 ?_
    rw [rounds_succ]
    go_wp2
    go_end0
    exact ⟨rfl, Mod.refl _ _⟩
  · rw [maxLen_val] at hcm
    go_enter Try.func30, Try.ntmps30
    go_wp2
    go_loopw [10, 3] (fun i _ wr => ∃ k : Nat, k ≤ cap ∧ i = .int .i64 k ∧ (∃ c, Cs wr g c 5 ∧ cap * 1 ≤ c.size ∧ ∀ u ∈ c.toList, IsB u) ∧ Mod (fun k => k = g) w wr) (fun i _ _ => cap - (intOf i).toNat)
    case atStart => exact ⟨0, by omega, rfl, ⟨cur, hc, hcs, hE⟩, Mod.refl _ _⟩
    case round =>
      obtain ⟨k, hk, rfl, ⟨c, hcw, hsz, hce⟩, hm⟩ := hrel
      have HM := Lib.hid hm
      have HCW := Lib.hid hcw
      have HCE := Lib.hid hce
      clear hm hcw hce
      by_cases hlt : k < cap
      · have hkc : k < c.size := by omega
        obtain ⟨x, hx, hx0, hx1⟩ := HCE.out c[k] (by simp)
        have c1 : wr.cell? ⟨g, k, none⟩ = some (.int .u8 x) := by rw [HCW.out.cell, Array.getElem?_eq_getElem hkc, hx]
        have f1 := HCW.out.frozen k
        have HX := Lib.hid hx
        clear hx
        go_wp2
        go_roundw
        case rel =>
          refine ⟨k + 1, by omega, by go_num, ⟨_, HCW.out.set k _, by simpa using hsz, ?_⟩, HM.out.setCell (fun _ => rfl) _⟩
          intro u hu
          simp only [Array.toList_setIfInBounds] at hu
          rcases List.mem_or_eq_of_mem_set hu with h | rfl
          · exact HCE.out u h
          · have := bounds_u8 (wf_bits .xor .u8 x 119)
            exact ⟨_, rfl, by omega, by omega⟩
        case measure => simp [intOf]; omega
      · go_wp2
        go_end0
        exact ⟨rfl, HM.out.mono (fun i _ h => by simp [Value.ownBlock, h])⟩
end Go.Proofs.Ythojipjleajajaa

/- gavellaw01: the document's own example. -/
namespace Go.Proofs.Ythojipjleajajaa
open Go Go.RowKit Go.Gv

end Go.Proofs.Ythojipjleajajaa

/- The plain law of numbers and rows as bytes: what is written is read. -/
namespace Go.Proofs.Ythojipjleajajaa
open Go Go.RowKit Go.Gv

theorem pow128 (i : Nat) : 2 ^ (7 * (i + 1)) = 128 * 2 ^ (7 * i) := by rw [Nat.mul_add, Nat.pow_add, Nat.mul_comm]

theorem dec_enc (rest : List Int) : ∀ (m i acc : Nat), (i = 0 ∨ 1 ≤ m) → m * 2 ^ (7 * i) < U64 → i ≤ 9 → decGo i acc (encN m ++ rest) = some (acc + m * 2 ^ (7 * i), rest) := by
 intro m
 induction m using Nat.strongRecOn with
 | _ m ih =>
  intro i acc h1 h2 h3
  by_cases hm : m < 128
  ·rw [encN_lt hm]
   simp only [List.cons_append, List.nil_append, decGo]
   have n1 : ¬ (i = 9 ∧ (1 : Int) < m) := by
    rintro ⟨rfl, h⟩
    unfold U64 at h2
    simp only [Nat.reduceMul, Nat.reducePow] at h2
    omega
   rw [if_neg n1, if_pos (by omega), if_neg (by omega)]
   simp
  ·rw [encN_ge (by omega)]
   simp only [List.cons_append, decGo]
   have hp := pow128 i
   have hle : 128 * 2 ^ (7 * i) ≤ m * 2 ^ (7 * i) := Nat.mul_le_mul_right _ (by omega)
   have hi : i ≤ 8 := by
    rcases Nat.lt_or_ge i 9 with h | h
    ·omega
    ·obtain rfl : i = 9 := by omega
     unfold U64 at h2
     simp only [Nat.reduceMul, Nat.reducePow] at h2 hle
     omega
   have hdm : (m / 128) * 2 ^ (7 * (i + 1)) + (m % 128) * 2 ^ (7 * i) = m * 2 ^ (7 * i) := by
    rw [hp, ← Nat.mul_assoc, ← Nat.add_mul]
    congr 1
    omega
   rw [if_neg (by omega), if_neg (by omega)]
   have e : ((m : Int) % 128 + 128).toNat - 128 = m % 128 := by omega
   rw [e, ih (m / 128) (by omega) (i + 1) _ (.inr (by omega)) (by omega) (by omega)]
   congr 2
   omega

theorem rNum_enc {m : Nat} (hm : m < U64) (rest : List Int) : rNum (some (encN m ++ rest)) = (m, some rest) := by
 have := dec_enc rest m 0 0 (.inl rfl) (by simpa using hm) (by omega)
 simp [rNum, this]
theorem rInt_enc {m : Nat} (hm : m < U64) (most : Int) (rest : List Int) : rInt most (some (encN m ++ rest)) = if most < m then (0, none) else (m, some rest) := by
 simp only [rInt, rNum_enc hm, Option.isNone_some, Bool.false_eq_true, false_or]
 by_cases h : most < m
 ·rw [if_pos (.inr h), if_pos h]
 ·rw [if_neg (by omega), if_neg h]
theorem rTake_app {n : Nat} {a : List Int} (h : a.length = n) (rest : List Int) : rTake n (some (a ++ rest)) = (a, some rest) := by
 subst h
 simp [rTake]
theorem rRow_enc {bs : List Int} (hb : bs.length < U64) (most : Int) (rest : List Int) : rRow most (some (encN bs.length ++ (bs ++ rest))) = if most < bs.length then ([], none) else (bs, some rest) := by
 simp only [rRow, rInt_enc hb]
 by_cases h : most < bs.length
 ·rw [if_pos h, if_pos h]; rfl
 ·rw [if_neg h, if_neg h]; exact rTake_app rfl rest
@[simp] theorem rNum_none' : rNum none = (0, none) := rfl
@[simp] theorem rInt_none (most : Int) : rInt most none = (0, none) := by simp [rInt]
@[simp] theorem rTake_none (n : Nat) : rTake n none = ([], none) := rfl
@[simp] theorem rRow_none (most : Int) : rRow most none = ([], none) := by simp [rRow]
@[simp] theorem rHash_none : rHash none = (List.replicate 32 0, none) := rfl
end Go.Proofs.Ythojipjleajajaa

/- The contracts once more, each object with the blocks in which it lives (R): so that what one call does to one object leaves the others. -/
namespace Go.Proofs.Ythojipjleajajaa
open Go Go.RowKit Go.Gv

/-- a list of bytes (at most N) that is only read; its block, where it has one that matters, is in R -/
def RdR (R : Nat → Prop) (N : Nat) (w : World) (v : Value) (bs : List Int) : Prop := RdB w v bs ∧ (0 < bs.length → ∀ g, v.ownBlock = some g → R g) ∧ bs.length ≤ N
/-- a list of bytes that may be appended to, spoilt -/
def OwR (R : Nat → Prop) (N : Nat) (w : World) (v : Value) (bs : List Int) : Prop := OwnB w v bs ∧ (∀ g, v.ownBlock = some g → R g) ∧ bs.length ≤ N
def WrR (R : Nat → Prop) (N : Nat) (w : World) (b : Nat) (bs : List Int) : Prop := ∃ v, Wr w b v bs ∧ R b ∧ (∀ g, v.ownBlock = some g → R g) ∧ bs.length ≤ N
def RrR (T : TypeId) (R : Nat → Prop) (w : World) (r : Nat) (s : RSt) : Prop := ∃ v, Rr T w r v s ∧ R r ∧ (0 < (s.getD []).length → ∀ g, v.ownBlock = some g → R g)

section
variable {R R' S : Nat → Prop} {N M : Nat} {w w' : World} {v : Value} {bs : List Int} {b r : Nat} {s : RSt} {T : TypeId}
theorem RdR.mod (h : RdR R N w v bs) (hm : Mod S w w') (hs : ∀ k, R k → S k → False) : RdR R N w' v bs := ⟨h.1.mod hm (fun h0 g hg hS => hs g (h.2.1 h0 g hg) hS), h.2⟩
theorem RdR.widen (h : RdR R N w v bs) (hs : ∀ k, R k → R' k) (hM : N ≤ M) : RdR R' M w v bs := ⟨h.1, fun h0 g hg => hs g (h.2.1 h0 g hg), Nat.le_trans h.2.2 hM⟩
theorem OwR.mod (h : OwR R N w v bs) (hm : Mod S w w') (hs : ∀ k, R k → S k → False) : OwR R N w' v bs := ⟨OwnB.mod h.1 hm (fun g hg hS => hs g (h.2.1 g hg) hS), h.2⟩
theorem OwR.widen (h : OwR R N w v bs) (hs : ∀ k, R k → R' k) (hM : N ≤ M) : OwR R' M w v bs := ⟨h.1, fun g hg => hs g (h.2.1 g hg), Nat.le_trans h.2.2 hM⟩
theorem OwR.rd (h : OwR R N w v bs) : RdR R N w v bs := ⟨h.1.rd, fun _ => h.2.1, h.2.2⟩
theorem WrR.mod (h : WrR R N w b bs) (hm : Mod S w w') (hs : ∀ k, R k → S k → False) : WrR R N w' b bs := by
  obtain ⟨v, h1, h2, h3, h4⟩ := h
  exact ⟨v, h1.mod hm (hs b h2) (fun g hg => hs g (h3 g hg)), h2, h3, h4⟩
theorem WrR.widen (h : WrR R N w b bs) (hs : ∀ k, R k → R' k) (hM : N ≤ M) : WrR R' M w b bs := by
  obtain ⟨v, h1, h2, h3, h4⟩ := h
  exact ⟨v, h1, hs b h2, fun g hg => hs g (h3 g hg), Nat.le_trans h4 hM⟩
theorem RrR.mod (h : RrR T R w r s) (hm : Mod S w w') (hs : ∀ k, R k → S k → False) : RrR T R w' r s := by
  obtain ⟨v, h1, h2, h3⟩ := h
  exact ⟨v, h1.mod hm (hs r h2) (fun h0 g hg => hs g (h3 h0 g hg)), h2, h3⟩
theorem RrR.widen (h : RrR T R w r s) (hs : ∀ k, R k → R' k) : RrR T R' w r s := by
  obtain ⟨v, h1, h2, h3⟩ := h
  exact ⟨v, h1, hs r h2, fun h0 g hg => hs g (h3 h0 g hg)⟩
theorem RdR.len {ao : Option Addr} {n cap : Nat} (h : RdR R N w (.slice ao n cap) bs) : n = bs.length := h.1.len.1
theorem RdR.shape (h : RdR R N w v bs) : ∃ ao cap, v = .slice ao bs.length cap := by obtain ⟨ao, cap, e, _⟩ := h.1.shape; exact ⟨ao, cap, e⟩
theorem OwR.shape (h : OwR R N w v bs) : ∃ ao cap, v = .slice ao bs.length cap := h.rd.shape
end

/-- what is new in w' -/
abbrev New (w w' : World) (k : Nat) : Prop := w.heap.size ≤ k ∧ k < w'.heap.size

theorem OwR_of {w w' : World} {v : Value} {bs : List Int} (N : Nat) (h : OwnB w' v bs) (hf : Fresh w v) (hN : bs.length ≤ N) : OwR (New w w') N w' v bs := ⟨h, fun g hg => ⟨hf g hg, Own.lt h hg⟩, hN⟩

theorem Cut_R {R : Nat → Prop} {N : Nat} {v : Value} {bs : List Int} (n : Nat) {w : World} (hr : RdR R N w v bs) (hn : n ≤ 1000000) :
    Calls Try.prog 11 #[v, .int .i64 n] w fun e w' => ∃ v', e = .returned v' ∧ OwR (New w w') n w' v' (bs.take n) ∧ Mod (fun _ => False) w w' := by
  obtain ⟨ao, cap, rfl⟩ := hr.shape
  exact (Cut_any ao _ cap bs n w hr.1 hn).mono fun e w' ⟨ao', cap', he, ho, hf, hm⟩ => ⟨_, he, OwR_of n ho hf (by simp; omega), hm⟩
theorem Copy_R {R : Nat → Prop} {N : Nat} {v : Value} {bs : List Int} {w : World} (hr : RdR R N w v bs) (hl : N ≤ 1000000) :
    Calls Try.prog 28 #[v] w fun e w' => ∃ v', e = .returned v' ∧ OwR (New w w') N w' v' bs ∧ Mod (fun _ => False) w w' :=
  (Copy_any v bs w hr.1 (by have := hr.2.2; unfold Room; omega)).mono fun e w' ⟨ao', cap', he, ho, hf, hm⟩ => ⟨_, he, OwR_of N ho hf hr.2.2, hm⟩
theorem Same_R {R R' : Nat → Prop} {N N' : Nat} {va vb : Value} {a b : List Int} {w : World} (ha : RdR R N w va a) (hb : RdR R' N' w vb b) :
    Calls Try.prog 15 #[va, vb] w fun e w' => e = .returned (.bool (decide (a = b))) ∧ Mod (fun _ => False) w w' :=
  (Same_any va vb a b w ha.1 hb.1).mono fun _ _ ⟨he, hd⟩ => ⟨he, mod_of_drewN hd _⟩
theorem NewWriter_R (w : World) :
    Calls Try.prog 38 #[] w fun e w' => ∃ b, e = .returned (.pointer (some ⟨b, 0, none⟩)) ∧ WrR (New w w') 0 w' b [] ∧ Mod (fun _ => False) w w' :=
  (NewWriter_any w).mono fun _ _ ⟨he, hW, hm⟩ => ⟨_, he, ⟨_, hW, ⟨Nat.le_refl _, hW.1.lt⟩, (fun g hg => by cases hg), Nat.le_refl _⟩, hm⟩
theorem WrTo_R {R : Nat → Prop} {w w' : World} {b : Nat} {v : Value} {bs : List Int} (N : Nat) (hb : R b) (hv : ∀ g, v.ownBlock = some g → R g) (h : WrTo w b v bs w') (hN : bs.length ≤ N) :
    WrR (fun k => R k ∨ New w w' k) N w' b bs ∧ Mod R w w' := by
  obtain ⟨v', h1, h2, h3⟩ := h
  refine ⟨⟨v', h1, .inl hb, fun g hg => ?_, hN⟩, h2.mono (fun k _ hk => ?_)⟩
  · rcases h3 with h3 | ⟨k, h3, hk⟩
    · exact .inl (hv g (h3 ▸ hg))
    · rw [h3] at hg
      obtain rfl : k = g := by simpa using hg
      exact .inr ⟨hk, Own.lt h1.2 h3⟩
  · rcases hk with rfl | hk
    · exact hb
    · exact hv k hk.symm
theorem WBytes_R {R : Nat → Prop} {N b : Nat} {bs : List Int} {w : World} (hW : WrR R N w b bs) (hl : N ≤ 1000000) :
    Calls Try.prog 40 #[.pointer (some ⟨b, 0, none⟩)] w fun e w' => ∃ v', e = .returned v' ∧ OwR (New w w') N w' v' bs ∧ Mod (fun _ => False) w w' := by
  obtain ⟨v, h1, h2, h3, h4⟩ := hW
  exact (WBytes_any b v bs w h1 (by unfold Room; omega)).mono fun e w' ⟨ao', cap', he, ho, hf, hm⟩ => ⟨_, he, OwR_of N ho hf h4, hm⟩
theorem NewReader_R {R : Nat → Prop} {N : Nat} {v : Value} {bs : List Int} {w : World} (hr : RdR R N w v bs) (hl : N ≤ 1000000) :
    Calls Try.prog 32 #[v] w fun e w' => ∃ r, e = .returned (.pointer (some ⟨r, 0, none⟩)) ∧ RrR 75 (New w w') w' r (some bs) ∧ Mod (fun _ => False) w w' :=
  (NewReader_any v bs w hr.1 (by have := hr.2.2; unfold Room; omega)).mono fun _ w' ⟨r, v', he, h1, h2, h3, hm⟩ => ⟨r, he, ⟨v', h2, ⟨h1, h2.1.lt⟩, fun h0 g hg => ⟨h3 h0 g hg, h2.2.1.block_lt h0 g hg⟩⟩, hm⟩
theorem RrTo_R {T : TypeId} {R : Nat → Prop} {w w' : World} {r : Nat} {v : Value} {s s' : RSt} (hr : R r) (hv : 0 < (s.getD []).length → ∀ g, v.ownBlock = some g → R g) (hl : (s'.getD []).length ≤ (s.getD []).length) (h : RrTo T w r v s' w') :
    RrR T R w' r s' ∧ Mod R w w' := by
  obtain ⟨v', h1, h2, h3⟩ := h
  exact ⟨⟨v', h1, hr, fun h0 g hg => hv (by omega) g (by rw [← h3 h0]; exact hg)⟩, h2.mono (fun k _ hk => by subst hk; exact hr)⟩
theorem rRow_len (most : Int) (s : RSt) : ((rRow most s).2.getD []).length ≤ (s.getD []).length := Nat.le_trans (rTake_len _ _) (rInt_len most s)
theorem rTake_bd (n : Nat) (s : RSt) : (rTake n s).1.length ≤ n := by
  cases s with
  | none => simp
  | some l => simp only [rTake]; split <;> simp; omega
theorem RRow_R {R : Nat → Prop} {r : Nat} {most : Int} {s : RSt} {w : World} (hR : RrR 75 R w r s) (hm : -9223372036854775808 ≤ most ∧ most ≤ 1000000000) :
    Calls Try.prog 34 #[.pointer (some ⟨r, 0, none⟩), .int .i64 most] w fun e w' => ∃ v', e = .returned v' ∧ OwR (New w w') most.toNat w' v' (rRow most s).1 ∧ RrR 75 R w' r (rRow most s).2 ∧ Mod R w w' := by
  obtain ⟨v, h1, h2, h3⟩ := hR
  refine (RRow_any r most v s w h1 hm).mono fun _ _ ⟨v', he, ho, hf, h⟩ => ⟨v', he, OwR_of _ ho hf ?_, RrTo_R h2 h3 (rRow_len most s) h⟩
  have := rTake_bd (rInt most s).1 (rInt most s).2
  have := rInt_le most s
  show (rTake _ _).1.length ≤ _
  omega
theorem OK_R {R : Nat → Prop} {r : Nat} {s : RSt} {w : World} (hR : RrR 75 R w r s) :
    Calls Try.prog 35 #[.pointer (some ⟨r, 0, none⟩)] w fun e w' => e = .returned (.bool s.isSome) ∧ w = w' := by
  obtain ⟨v, h1, h2, h3⟩ := hR
  exact OK_any r v s w h1
theorem Left_R {R : Nat → Prop} {r : Nat} {s : RSt} {w : World} (hR : RrR 75 R w r s) :
    Calls Try.prog 33 #[.pointer (some ⟨r, 0, none⟩)] w fun e w' => e = .returned (.int .i64 (s.getD []).length) ∧ w = w' := by
  obtain ⟨v, h1, h2, h3⟩ := hR
  exact Left_any r v s w h1
theorem Spoil_R {R : Nat → Prop} {N : Nat} {v : Value} {bs : List Int} {w : World} (ho : OwR R N w v bs) :
    Calls Try.prog 30 #[v] w fun e w' => e = .returned (.tuple #[]) ∧ Mod R w w' :=
  (Spoil_any v bs w ho.1).mono fun _ _ ⟨he, hm⟩ => ⟨he, hm.mono (fun k _ hk => ho.2.1 k hk.symm)⟩
/-- append of bytes, with the blocks -/
theorem wpList_appR {w : World} {ops : Array Oper} {rest : List Oper} {o : Oper} {a : Act} {Q : Exit → Act → World → Prop} (hgd : o.guard = none) (s x : Operand)
    (ho : o.op = .call { callee := .builtin .append, args := #[s, x], argTypes := #[22, 22] })
    {R R' : Nat → Prop} {N M : Nat} {v : Value} {bs : List Int} (hs : a.eval s = v) (hown : OwR R N w v bs) {xv : Value} {new : List Int} (hx : a.eval x = xv) (hrd : RdR R' M w xv new)
    (hroom : N + M ≤ 1000000)
    (h : ∀ ao cap w', OwR (fun k => R k ∨ New w w' k) (N + M) w' (.slice ao (bs.length + new.length) cap) (bs ++ new) → Mod R w w' → wpList Try.prog ops Q rest (a.put o.dst (.slice ao (bs.length + new.length) cap)) w') : wpList Try.prog ops Q (o :: rest) a w :=
  wpList_appB hgd s x ho hs hown.1 hx hrd.1 (by have := hown.2.2; have := hrd.2.2; unfold Room; omega) fun ao cap w' ⟨h1, h2, h3⟩ => h ao cap w' ⟨h1, (fun g hg => by
    rcases h3 with h3 | ⟨k, h3, hk⟩
    · exact .inl (hown.2.1 g (h3 ▸ hg))
    · rw [h3] at hg
      obtain rfl : k = g := by simpa using hg
      exact .inr ⟨hk, Own.lt h1 h3⟩), by have := hown.2.2; have := hrd.2.2; simp; omega⟩ (h2.mono (fun k _ hk => hown.2.1 k hk.symm))
end Go.Proofs.Ythojipjleajajaa

/- From a reading of the arguments to what the walks take: numbers, slices of bytes. -/
namespace Go.Proofs.Ythojipjleajajaa
open Go Go.RowKit Go.Gv Go.ChangeShapes Go.WideShapes Go.ChangeAt

theorem i64_bd {a : Int} (h : (Lit.int .i64 a).wf = true) : -9223372036854775808 ≤ a ∧ a ≤ 9223372036854775807 := bounds_i64 h

theorem bytes_of_trod {H : Type} {enc : TypeId × Value → H} {W : World} {base : Nat} {v : Value} {d : DataW H} {p : List MemPlace} (hv : Value.okWide Try.prog W .any base 22 v)
    (h : DataW.Trod enc Try.prog W 0 (fun _ => true) true 22 v d p) : ∃ bs, RdB W v bs ∧ Apart v bs.length (fun k => W.heap.size ≤ k) := by
  obtain ⟨a0, len0, cap0, rfl⟩ := okWide_slice Try.underlying22 hv
  obtain ⟨fuel, hf⟩ := h
  rcases open_ints Try.underlying22 Try.underlying5 (by kernel_rfl) hf with ⟨hcs, _⟩ | ⟨x, l, c, zs, hcs, _, hl, hm, hz, hx, hcell, hwz⟩
  · simp [Value.cells] at hcs
    obtain ⟨rfl, rfl, rfl⟩ := hcs
    exact ⟨[], RdB.nil _, Apart.zero⟩
  · simp [Value.cells] at hcs
    obtain ⟨rfl, rfl, rfl⟩ := hcs
    simp only [if_true] at hz
    have hbl : (zs.take len0).length = len0 := by simp; omega
    refine ⟨zs.take len0, ⟨?_, ?_⟩, ?_⟩
    · intro y hy
      have := bounds_u8 (hwz y (List.mem_of_mem_take hy))
      omega
    · rw [hbl]
      refine ⟨by simp; omega, some x, cap0, rfl, hl, hm, (fun h => by cases h), ?_⟩
      intro y hy j u hu
      cases hy
      simp only [List.getElem?_map, Option.map_eq_some_iff] at hu
      obtain ⟨q, hq, rfl⟩ := hu
      have hj : j < len0 := by have := (List.getElem?_eq_some_iff.1 hq).1; omega
      rw [List.getElem?_take, if_pos hj] at hq
      have h0 := hcell 0 (by omega)
      refine ⟨by simpa [Addr.add] using World.cell?_spot h0, ?_⟩
      rw [hcell j (by omega)]
      simp [List.getD, hq]
    · intro h0 g hg
      rw [hbl] at h0
      simp [Value.ownBlock] at hg
      subst hg
      have h0 := World.block_lt_of_cell? _ _ (hcell 0 (by omega))
      simp [Addr.add] at h0
      omega
end Go.Proofs.Ythojipjleajajaa

/- From readings of arguments to typed lists: slices of structs, arrays of bytes. -/
namespace Go.Proofs.Ythojipjleajajaa
open Go Go.RowKit Go.Gv Go.ChangeShapes Go.WideShapes Go.ChangeAt Go.Deep

/-- the slice v is the list l, each element s cells -/
def RdE {α : Type} (s : Nat) (cells : α → List Value) (R : Nat → Prop) (w : World) (v : Value) (l : List α) : Prop :=
  (l = [] ∧ ∃ ao cap, v = .slice ao 0 cap) ∨
  ∃ g o cap, R g ∧ v = .slice (some ⟨g, o, none⟩) l.length cap ∧ 0 < l.length ∧ l.length ≤ cap ∧ cap ≤ maxLen ∧ ∀ i (h : i < l.length), ∀ j u, (cells l[i])[j]? = some u → w.cell? ⟨g, o + i * s + j, none⟩ = some u

theorem RdE.mod {α : Type} {s : Nat} {cells : α → List Value} {R S : Nat → Prop} {w w' : World} {v : Value} {l : List α} (h : RdE s cells R w v l) (hm : Mod S w w') (hs : ∀ k, R k → S k → False) : RdE s cells R w' v l := by
  rcases h with h | ⟨g, o, cap, h1, h2, h3, h4, h5, h6⟩
  · exact .inl h
  · exact .inr ⟨g, o, cap, h1, h2, h3, h4, h5, fun i hi j u hu => hm.cell (h6 i hi j u hu) (hs g h1)⟩

section
variable {H : Type} {enc : TypeId × Value → H} {W : World}

theorem trod_bytes {fuel : Nat} {v : Value} {x : DataW H × List MemPlace} (h : DataW.trod enc Try.prog W 0 (fun _ => true) true fuel 22 [v] = some x) : ∃ bs, RdR (fun k => k < W.heap.size) bs.length W v bs := by
  rcases open_ints Try.underlying22 Try.underlying5 (by kernel_rfl) h with ⟨hcs, _⟩ | ⟨x, len0, cap0, zs, hcs, _, hl, hm, hz, hx, hcell, hwz⟩
  · simp at hcs; subst hcs
    exact ⟨[], RdB.nil _, fun h => by simp at h, Nat.le_refl _⟩
  · simp at hcs; subst hcs
    simp only [if_true] at hz
    have hbl : (zs.take len0).length = len0 := by simp; omega
    refine ⟨zs.take len0, ⟨?_, ?_⟩, ?_, Nat.le_refl _⟩
    · intro y hy
      have := bounds_u8 (hwz y (List.mem_of_mem_take hy))
      omega
    · rw [hbl]
      refine ⟨by simp; omega, some x, cap0, rfl, hl, hm, (fun h => by cases h), ?_⟩
      intro y hy j u hu
      cases hy
      simp only [List.getElem?_map, Option.map_eq_some_iff] at hu
      obtain ⟨q, hq, rfl⟩ := hu
      have hj : j < len0 := by have := (List.getElem?_eq_some_iff.1 hq).1; omega
      rw [List.getElem?_take, if_pos hj] at hq
      have h0 := hcell 0 (by omega)
      refine ⟨by simpa [Addr.add] using World.cell?_spot h0, ?_⟩
      rw [hcell j (by omega)]
      simp [List.getD, hq]
    · intro h0 g hg
      rw [hbl] at h0
      simp [Value.ownBlock] at hg
      subst hg
      have h0 := World.block_lt_of_cell? _ _ (hcell 0 (by omega))
      simpa [Addr.add] using h0

/-- a slice whose elements are read one by one -/
theorem trod_list {α : Type} [Inhabited α] {t e : TypeId} {s fuel : Nat} (cells : α → List Value) (Ok : α → Prop) {v : Value} {x : DataW H × List MemPlace} (ht : Try.prog.underlying t = some (.slice e)) (hce : Try.prog.cellsOf e = s) (hs : 0 < s) (hlen : ∀ a, (cells a).length = s)
    (he : ∀ fuel cs x, DataW.trod enc Try.prog W 0 (fun _ => true) true fuel e cs = some x → ∃ a, cs = cells a ∧ Ok a)
    (h : DataW.trod enc Try.prog W 0 (fun _ => true) true fuel t [v] = some x) : ∃ l : List α, RdE s cells (fun k => k < W.heap.size) W v l ∧ ∀ a ∈ l, Ok a := by
  rcases open_slice ht h with ⟨hcs, _⟩ | ⟨a, len, cap, m, n, D, Pl, hcs, _, hl, hm, hmm, _, hel⟩
  · simp at hcs; subst hcs
    exact ⟨[], .inl ⟨rfl, _, _, rfl⟩, fun a ha => by cases ha⟩
  · simp at hcs; subst hcs
    simp only [if_true] at hmm
    subst hmm
    rcases Nat.eq_zero_or_pos len with rfl | hpos
    · exact ⟨[], .inl ⟨rfl, _, _, rfl⟩, fun a ha => by cases ha⟩
    have key : ∀ i, i < len → ∃ b : α, W.cells? 0 (a.add (i * s)) s = some (cells b) ∧ Ok b := by
      intro i hi
      obtain ⟨cs', h1, h2⟩ := hel i (by omega)
      rw [hce] at h1
      obtain ⟨b, rfl, hb⟩ := he _ _ _ h2
      exact ⟨b, h1, hb⟩
    obtain ⟨f, hf⟩ := choose_lt key
    have cell : ∀ i, i < len → ∀ j u, (cells (f i))[j]? = some u → W.cell? ((a.add (i * s)).add j) = some u := by
      intro i hi j u hu
      obtain ⟨_, hl2, hc2⟩ := World.cells?_some (hf i hi).1
      have hj := (List.getElem?_eq_some_iff.1 hu).1
      rw [hc2 j (by omega), hu]
    have h00 : 0 < (cells (f 0)).length := by rw [hlen]; exact hs
    have c00 := cell 0 hpos 0 _ (List.getElem?_eq_getElem h00)
    have ea : (a.add (0 * s)).add 0 = a := by simp [Addr.add]
    rw [ea] at c00
    have hspot := World.cell?_spot c00
    have hblk := World.block_lt_of_cell? _ _ c00
    obtain ⟨g, o, sp⟩ := a
    simp only at hspot hblk
    subst hspot
    refine ⟨(List.range len).map f, .inr ⟨g, o, m, hblk, by simp, by simpa using hpos, by simpa using hl, hm, ?_⟩, ?_⟩
    · intro i hi j u hu
      simp only [List.length_map, List.length_range] at hi
      have := cell i hi j u (by simpa using hu)
      rw [add_mk, add_mk] at this
      exact this
    · intro b hb
      obtain ⟨i, hi, rfl⟩ := List.mem_map.1 hb
      exact (hf i (by simpa using hi)).2
end
end Go.Proofs.Ythojipjleajajaa

/- Elements of slices: their addresses, appending one that has many cells. No program here. -/
namespace Go.Gv
open Go Go.RowKit

section
variable {P : Program} {o : Oper} {a : Act} {w w' : World}
theorem ex_idxS {T e : TypeId} {x y : Operand} {g off n cap i s : Nat} {k : IntKind} (ho : o.op = .indexAddr T x y) (hu : P.underlying T = some (.slice e)) (hs : (P.info? e).map (·.size) = some s) (hx : a.eval x = .slice (some ⟨g, off, none⟩) n cap) (hy : a.eval y = .int k (i : Int)) (hi : i < n) :
    (execOp a.eval o).run P w = .ok (.value (.pointer (some ⟨g, off + i * s, none⟩))) w := by
  have hsz : (sizeOf e).run P w = .ok s w := by
    cases hq : P.info? e with
    | none => rw [hq] at hs; cases hs
    | some i => rw [hq] at hs; simp [sizeOf, typeInfo, hq]; exact Option.some.inj hs
  unfold execOp
  simp [ho, hx, hy, Instr.indexAt, asIntOf, run_underlying hu, hsz, hi, add_mk]
theorem ex_append {t : TypeId} {x y : Operand} {vx vy v : Value} (ho : o.op = .call { callee := .builtin .append, args := #[x, y], argTypes := #[t, t] }) (hx : a.eval x = vx) (hy : a.eval y = vy) (hr : (Builtin.append_ #[t, t] o.type #[vx, vy]).run P w = .ok v w') : (execOp a.eval o).run P w = .ok (.value v) w' := by
  unfold execOp
  simp only [ho, resolve, invoke, builtin, Sem.run_bind, Sem.run_pure, Result.andThen_ok, List.map_toArray, List.map_cons, List.map_nil, hx, hy, hr]
end
end Go.Gv

/- Arithmetic of single operations; elements of arrays. No program here. -/
namespace Go.Gv
open Go Go.RowKit

section
variable {P : Program} {o : Oper} {a : Act} {w w' : World} {t : TypeId} {k : IntKind}
end
end Go.Gv

/- Single operations for wp_region_Q: calls of function values, parts of results, slices' rows, appends of things. No program here. -/
namespace Go.Gv
open Go Go.RowKit

section
variable {P : Program} {ops : Array Oper} {Q : Exit → Act → World → Prop} {i : Nat} {o : Oper} {a : Act} {w : World} {KQ : Value → World → Prop}
theorem ex_extract {x : Operand} {k : Nat} {vs : Array Value} {v : Value} (ho : o.op = .extract x k) (hx : a.eval x = .tuple vs) (hv : vs[k]? = some v) : (execOp a.eval o).run P w = .ok (.value v) w := by
  unfold execOp
  simp [ho, hx, Instr.extract, hv]
theorem ex_binE {op : BinOp} {t u : TypeId} {x y : Operand} {vx vy v v' : Value} (ho : o.op = .binOp op t x y u) (hx : a.eval x = vx) (hy : a.eval y = vy) (hg : (eqGuard op t x y vx vy).run P w = .ok () w) (hr : (binOp op t vx vy).run P w = .ok v w) (he : v = v') : (execOp a.eval o).run P w = .ok (.value v') w := by
  subst he; exact ex_bin ho hx hy hg hr
theorem ex_pickE {c x y : Operand} {b : Bool} {vx vy v : Value} (ho : o.op = .pick c x y) (hc : a.eval c = .bool b) (hx : a.eval x = vx) (hy : a.eval y = vy) (he : (if b then vx else vy) = v) : (execOp a.eval o).run P w = .ok (.value v) w := by
  subst he; exact ex_pick ho hc hx hy
theorem ex_min {x y : Operand} {ts : Array TypeId} {k k' : IntKind} {m n r : Int} (ho : o.op = .call { callee := .builtin .min, args := #[x, y], argTypes := ts }) (hx : a.eval x = .int k m) (hy : a.eval y = .int k' n) (he : (if n < m then n else m) = r) : (execOp a.eval o).run P w = .ok (.value (.int k r)) w := by
  subst he
  unfold execOp
  simp [ho, resolve, invoke, builtin, hx, hy, run_min_int2, Result.andThen]
theorem add_zero (a : Addr) : a.add 0 = a := by
  unfold Addr.add
  split <;> simp_all
/-- one of the chain appends things -/
theorem qc_appS {α : Type} {A : Rep α} {e t : TypeId} {R E R2 : Nat → Prop} {v xv : Value} {l new : List α} {s x : Operand} (ho : ops[i]? = some o) (hw : Region.wanted o (yielded ops a.tmps) = true) (hop : o.op = .call { callee := .builtin .append, args := #[s, x], argTypes := #[t, t] }) (z : Value) (bytes : Nat)
    (ht : P.underlying t = some (.slice e)) (hinfo : (P.info? e).map (fun i => (i.zero, i.size, i.bytes)) = some (some z, A.sz, bytes)) (hzs : z.cells.size = A.sz) (hzE : ∀ u ∈ z.cells.toList, u.oneCell' = true)
    (hs : a.eval s = v) (hx : a.eval x = xv) (hown : OwS A e R E w v l) (hrd : RdS A R2 w xv new) (hd : ∀ k, R2 k → R k → False) (hbytes : (l.length + new.length) * bytes ≤ 140737488355328) (h63 : l.length + new.length ≤ maxLen)
    (h : ∀ ao cap w', OwS A e (fun k => R k ∨ (w.heap.size ≤ k ∧ k < w'.heap.size)) (fun k => E k ∨ R2 k) w' (.slice ao (l.length + new.length) cap) (l ++ new) → Mod R w w' → KQ (.slice ao (l.length + new.length) cap) w') : wpOp P ops Q i (fun a' w' => ∃ v, a' = a.put o.dst v ∧ KQ v w') a w := by
  obtain ⟨ao, cap, w', hr, h1, h2⟩ := run_appS (P := P) w t o.type e z bytes ht hinfo hzs hzE hown hrd (fun k hk he => by obtain ⟨_, _, _, _, h5⟩ := hown; exact hd k hk (h5 k he)) hbytes h63
  exact qc_run ho hw (ex_append hop hs hx hr) (h ao cap w' h1 h2)
end
end Go.Gv

/- Short forms for printed walks: facts carried over a whole chain at once, single operations, regions without new variables. No program here. -/
namespace Go.Gv
open Go Go.RowKit

theorem hid {p : Prop} (h : p) : Hid p := h
/-- a chain's steps, told at once: S: what of old they may turn -/
theorem Mod.new {S : Nat → Prop} {w a : World} (h : Mod (fun j => w.heap.size ≤ j) w a) : Mod S w a := h.mono fun k hk h => absurd hk (Nat.not_lt.2 h)
theorem Mod.goR {S R : Nat → Prop} {w a c : World} (h : Mod S w a) (hr : Mod (fun j => w.heap.size ≤ j ∧ R j) a c) : Mod S w c :=
  h.trans hr fun k hk h => absurd hk (Nat.not_lt.2 h.1)
theorem Mod.goM {S T R : Nat → Prop} {w a b c : World} (h : Mod S w a) (hm : Mod T a b) (hr : Mod (fun j => w.heap.size ≤ j ∧ R j) b c) (hs : ∀ k, k < w.heap.size → T k → S k) : Mod S w c :=
  (h.trans hm hs).goR hr
theorem Mod.go {S R : Nat → Prop} {w a b c : World} (h : Mod S w a) (hm : Mod (fun _ => False) a b) (hr : Mod (fun j => w.heap.size ≤ j ∧ R j) b c) : Mod S w c :=
  h.goM hm hr fun _ _ h => h.elim
theorem Mod.old {w a : World} (h : Mod (fun j => (j < w.heap.size ∧ False) ∨ w.heap.size ≤ j) w a) : Mod (fun j => w.heap.size ≤ j) w a := h.mono fun _ _ h => h.elim (fun h => h.2.elim) (fun h => h)
theorem chv {v x : Value} (h : some v = some x) : x = v := (Option.some.inj h).symm
theorem list_eta {vs : List Value} {n : Nat} (hl : vs.length = n) : vs = (List.range n).map fun i => vs.getD i undef := by
  subst hl
  refine List.ext_getElem? fun i => ?_
  rcases Nat.lt_or_ge i vs.length with h | h
  · simp [List.getD_eq_getElem?_getD, h]
  · simp [h]
theorem getq {vs : List Value} {n p : Nat} (hl : vs.length = n) (h : p < n) : vs[p]? = some (vs.getD p undef) := by
  subst hl
  simp [List.getD_eq_getElem?_getD, h]
section
variable {β : Type} {f : Operand → β}
theorem args0 : (#[] : Array Operand).map f = #[] := by simp
theorem args1 {x1 : Operand} {a1 : β} (h1 : f x1 = a1) : #[x1].map f = #[a1] := by rw [← h1]; simp
theorem args2 {x1 x2 : Operand} {a1 a2 : β} (h1 : f x1 = a1) (h2 : f x2 = a2) : #[x1, x2].map f = #[a1, a2] := by rw [← h1, ← h2]; simp
end
section
variable {P : Program} {ops : Array Oper} {Q : Exit → Act → World → Prop} {a0 : Act} {w0 : World} {n : Nat} {ss : List Nat} {S0 : Nat → Prop} {SS : Nat → Nat → Prop} {l : List QPred} {c : List Nat} {al : List QRow} {i : Nat} {o : Oper}
/-- what is known where an operation beside the chain stands -/
structure StE (ops : Array Oper) (a0 : Act) (w0 : World) (n : Nat) (ss : List Nat) (S0 : Nat → Prop) (SS : Nat → Nat → Prop) (l : List QPred) (c : List Nat) (i : Nat) (o : Oper) (Z : Nat → Prop) (t : List Value) (a : Act) (w : World) : Prop where
  inZ : ∀ j, Z j → w0.heap.size ≤ j ∧ j < w.heap.size
  m : Mod (fun j => (j < w0.heap.size ∧ S0 j) ∨ w0.heap.size ≤ j) w0 w
  m0 : Mod (fun j => (j < w0.heap.size ∧ ∃ k, k < t.length ∧ SS k j) ∨ w0.heap.size ≤ j) w0 w
  out : ∀ t, t ∉ ss → a.eval (.tmp t) = a0.eval (.tmp t)
  sz : ∀ s, s < n → s < a.tmps.size
  on : ∀ e ∈ o.after, Region.binds .any e = true → ∀ s, (ops[e.on]?).bind (·.dst) = some s → (l.getD e.on qa) Z t (a.eval (.tmp s)) w
  ub : ∀ k q, c[k]? = some q → (clo ops ops.size (afterOf ops q)).contains i = true → t.length ≤ k
  pre : ∀ j s, (ops[j]?).bind (·.dst) = some s → (clo ops ops.size (afterOf ops j)).contains i = true → a.eval (.tmp s) = a0.eval (.tmp s)
theorem StE.v {Z : Nat → Prop} {t : List Value} {a : Act} {w : World} (E : StE ops a0 w0 n ss S0 SS l c i o Z t a w) {k : Nat} {v : Value} (h : a0.eval (.tmp k) = v) (hk : k ∉ ss := by decide) : a.eval (.tmp k) = v := (E.out k hk).trans h
theorem StE.e {Z : Nat → Prop} {t : List Value} {a : Act} {w : World} (E : StE ops a0 w0 n ss S0 SS l c i o Z t a w) (k : Nat) (g : Ground) {s : Nat} (h : (⟨k, g⟩ : Edge) ∈ o.after := by simp) (hb : Region.binds .any ⟨k, g⟩ = true := by rfl) (hs : (ops[k]?).bind (·.dst) = some s := by rfl) : (l.getD k qa) Z t (a.eval (.tmp s)) w := E.on ⟨k, g⟩ h hb s hs
theorem StE.d {Z : Nat → Prop} {t : List Value} {a : Act} {w : World} (E : StE ops a0 w0 n ss S0 SS l c i o Z t a w) (k : Nat) {s : Nat} (h : (⟨k, .data⟩ : Edge) ∈ o.after := by simp) (hs : (ops[k]?).bind (·.dst) = some s := by rfl) : (l.getD k qa) Z t (a.eval (.tmp s)) w := E.on ⟨k, .data⟩ h rfl s hs
/-- where one of the chain stands -/
structure ChE (ops : Array Oper) (a0 : Act) (n : Nat) (ss : List Nat) (B : Nat) (l : List QPred) (i : Nat) (o : Oper) (Y : Nat → Prop) (Z : Nat → Prop) (t : List Value) (a : Act) (w : World) : Prop where
  YZ : ∀ j, Y j → Z j
  inZ : ∀ j, Z j → B ≤ j ∧ j < w.heap.size
  out : ∀ t, t ∉ ss → a.eval (.tmp t) = a0.eval (.tmp t)
  sz : ∀ s, s < n → s < a.tmps.size
  on : ∀ e ∈ o.after, Region.binds .any e = true → ∀ s, (ops[e.on]?).bind (·.dst) = some s → (l.getD e.on qa) Z t (a.eval (.tmp s)) w
  pre : ∀ j s, (ops[j]?).bind (·.dst) = some s → (clo ops ops.size (afterOf ops j)).contains i = true → a.eval (.tmp s) = a0.eval (.tmp s)
theorem ChE.v {B : Nat} {Y Z : Nat → Prop} {t : List Value} {a : Act} {w : World} (E : ChE ops a0 n ss B l i o Y Z t a w) {k : Nat} {v : Value} (h : a0.eval (.tmp k) = v) (hk : k ∉ ss := by decide) : a.eval (.tmp k) = v := (E.out k hk).trans h
theorem ChE.e {B : Nat} {Y Z : Nat → Prop} {t : List Value} {a : Act} {w : World} (E : ChE ops a0 n ss B l i o Y Z t a w) (k : Nat) (g : Ground) {s : Nat} (h : (⟨k, g⟩ : Edge) ∈ o.after := by simp) (hb : Region.binds .any ⟨k, g⟩ = true := by rfl) (hs : (ops[k]?).bind (·.dst) = some s := by rfl) : (l.getD k qa) Z t (a.eval (.tmp s)) w := E.on ⟨k, g⟩ h hb s hs
theorem ChE.d {B : Nat} {Y Z : Nat → Prop} {t : List Value} {a : Act} {w : World} (E : ChE ops a0 n ss B l i o Y Z t a w) (k : Nat) {s : Nat} (h : (⟨k, .data⟩ : Edge) ∈ o.after := by simp) (hs : (ops[k]?).bind (·.dst) = some s := by rfl) : (l.getD k qa) Z t (a.eval (.tmp s)) w := E.on ⟨k, .data⟩ h rfl s hs
theorem QChain.go {B : Nat} {Y : Nat → Prop} {k : Nat} {t : List Value} {w : World} (h : ∀ Z a, ChE ops a0 n ss B l i o Y Z t a w → wpOp P ops Q i (fun a' w' => ∃ v, a' = a.put o.dst v ∧ QPost P ops Q a0 n ss B S0 SS l al i c k Y t w v w') a w) (ho : ops[i]? = some o := by rfl) : QChain P ops Q a0 n ss B S0 SS l al (i :: c) k Y t w :=
  QChain.cons ho fun Z a h1 h2 h3 h4 h5 h6 => h Z a ⟨h1, h2, h3, h4, h5, h6⟩
theorem stq {v : Value} (hs : ∀ {Z : Nat → Prop} {t : List Value} {a : Act} {w : World}, StE ops a0 w0 n ss S0 SS l c i o Z t a w → (execOp a.eval o).run P w = .ok (.value v) w) (ho : ops[i]? = some o := by rfl) (hg : o.guard = none := by rfl) (hv : l.getD i qa = qi v := by rfl)
    (h : c.contains i = false := by rfl) (h0 : al.find? (fun r => r.a == i) = none := by rfl) (h1 : al.find? (fun r => r.s == i) = none := by rfl) : StepQ P ops Q a0 w0 n ss S0 SS l c al i o :=
  stepq_env h h0 h1 fun Z t a w k1 k2 k3 k4 k5 k6 k7 k8 => qe_run ho (wanted_none hg) (hs ⟨k1, k2, k3, k4, k5, k6, k7, k8⟩) QE.refl (by rw [hv]; rfl)
def gw (vs : List Value) (i : Nat) : Value := vs.getD i undef
theorem gw_eta {vs : List Value} {n : Nat} (hl : vs.length = n) : vs = (List.range n).map fun i => gw vs i := list_eta hl
theorem fvi {Z : Nat → Prop} {t : List Value} {w : World} {vs : List Value} {m : Nat} {x : Value} (hV : ∀ p v, vs[p]? = some v → (l.getD p qa) Z t v w) (hl : vs.length = m) (p : Nat) (hp : p < m := by decide) (he : l.getD p qa = qi x := by rfl) : gw vs p = x := by
  have h := hV p _ (getq hl hp)
  rw [he] at h
  exact h
theorem fvc {Z : Nat → Prop} {t : List Value} {w : World} {vs : List Value} {m k : Nat} {x : Value} (hV : ∀ p v, vs[p]? = some v → (l.getD p qa) Z t v w) (hl : vs.length = m) (p : Nat) (hp : p < m := by decide) (he : l.getD p qa = qv k := by rfl) (hx : t[k]? = some x := by rfl) : gw vs p = x := by
  have h := hV p _ (getq hl hp)
  rw [he] at h
  exact (Option.some.inj (hx.symm.trans h)).symm
/-- a region without new variables -/
theorem wp_region_Q1 {d : Bool} {id : Nat} (n : Nat) (hn : a0.tmps.size = n) (ss : List Nat)
    (S0 : Nat → Prop) (SS : Nat → Nat → Prop) (hSS : ∀ k j, SS k j → S0 j) (l : List QPred) (stable : AllQ w0.heap.size S0 l) (c : List Nat)
    (step : Each (StepQ P ops Q a0 w0 n ss S0 SS l c []) 0 ops.toList)
    (start : ∀ w1, Mod (fun j => w0.heap.size ≤ j) w0 w1 → QChain P ops Q a0 n ss w0.heap.size S0 SS l [] c 0 (fun _ => False) [] w1)
    (hm : P.follows .mixedOrders = true := by kernel_rfl) (hac : backward ops = true := by kernel_rfl) (hss : okSlots ops n ss = true := by kernel_rfl) (hnd : ss.Nodup := by decide) (hlk : linked ops c = true := by kernel_rfl) (hcn : c.Nodup := by decide) (hcs : (c.all fun i => decide (i < ops.size)) = true := by kernel_rfl) : (Code.region id ops d).wp P Q a0 w0 :=
  wp_region_Q n hn hm hac ss hss hnd S0 SS hSS l stable c hlk hcn hcs [] rfl (fun r hr => by cases hr) (fun r hr => by cases hr) (fun r hr => by cases hr) step start
/-- one that turns nothing of old -/
theorem wp_region_Q0 {d : Bool} {id : Nat} (n : Nat) (hn : a0.tmps.size = n) (ss : List Nat) (l : List QPred) (stable : AllQ w0.heap.size (fun _ => False) l) (c : List Nat)
    (step : Each (StepQ P ops Q a0 w0 n ss (fun _ => False) (fun _ _ => False) l c []) 0 ops.toList)
    (start : ∀ w1, Mod (fun j => w0.heap.size ≤ j) w0 w1 → QChain P ops Q a0 n ss w0.heap.size (fun _ => False) (fun _ _ => False) l [] c 0 (fun _ => False) [] w1)
    (hm : P.follows .mixedOrders = true := by kernel_rfl) (hac : backward ops = true := by kernel_rfl) (hss : okSlots ops n ss = true := by kernel_rfl) (hnd : ss.Nodup := by decide) (hlk : linked ops c = true := by kernel_rfl) (hcn : c.Nodup := by decide) (hcs : (c.all fun i => decide (i < ops.size)) = true := by kernel_rfl) : (Code.region id ops d).wp P Q a0 w0 :=
  wp_region_Q1 n hn ss _ _ (fun _ _ h => h) l stable c step start hm hac hss hnd hlk hcn hcs
theorem qc_callF {KQ : Value → World → Prop} {a : Act} {w : World} {F : FuncId} {xs : Array Operand} {ts : Array TypeId} {args : Array Value} {post : Ending → World → Prop} {fn : Func} (ho : ops[i]? = some o) (hw : Region.wanted o (yielded ops a.tmps) = true) (hop : o.op = .call { callee := .value (.func F), args := xs, argTypes := ts })
    (hf : P.funcs[F]? = some fn) (ha : xs.map a.eval = args) (hcl : Calls P F args w post) (hp : ∀ e w', post e w' → ∃ v, e = .returned v ∧ KQ v w') (hn : (fn.name == "runtime.NumGoroutine") = false := by kernel_rfl) (hb : fn.body.isNone = false := by kernel_rfl) : wpOp P ops Q i (fun a' w' => ∃ v, a' = a.put o.dst v ∧ KQ v w') a w :=
  qc_call ho hw (by rw [ex_callF hop hf hn hb, ha]) hcl hp
theorem qe_callF {B : Nat} {Z : Nat → Prop} {t : List Value} {a : Act} {w : World} {F : FuncId} {xs : Array Operand} {ts : Array TypeId} {args : Array Value} {post : Ending → World → Prop} {fn : Func} (ho : ops[i]? = some o) (hw : Region.wanted o (yielded ops a.tmps) = true) (hop : o.op = .call { callee := .value (.func F), args := xs, argTypes := ts })
    (hf : P.funcs[F]? = some fn) (ha : xs.map a.eval = args) (hcl : Calls P F args w post) (hp : ∀ e w', post e w' → ∃ v, e = .returned v ∧ QE B Z w w' ∧ (l.getD i qa) Z t v w') (hn : (fn.name == "runtime.NumGoroutine") = false := by kernel_rfl) (hb : fn.body.isNone = false := by kernel_rfl) : wpOp P ops Q i (QJ B l Z i o t a w) a w :=
  qe_call ho hw (by rw [ex_callF hop hf hn hb, ha]) hcl hp
end
end Go.Gv

/- Answers of the chain of which more is known than what they are: new variables that are written whole with them. No program here. -/
namespace Go.Gv
open Go Go.RowKit

end Go.Gv

/- A region that keeps its order, told operation by operation. No program here. -/
namespace Go.Gv
open Go Go.RowKit

theorem putAll_snoc : ∀ (ss : List Nat) (t : List Value) (a : Act) (s : Nat) (v : Value), ss[t.length]? = some s → (putAll a ss t).put (some s) v = putAll a ss (t ++ [v])
  | [], t, a, s, v, h => by simp at h
  | s :: ss, [], a, s', v, h => by
    simp only [List.length_nil, List.getElem?_cons_zero, Option.some.injEq] at h
    subst h
    cases ss <;> rfl
  | s :: ss, u :: t, a, s', v, h => by
    simp only [List.length_cons, List.getElem?_cons_succ] at h
    simp only [List.cons_append, putAll]
    exact putAll_snoc ss t _ s' v h
theorem putAll_take : ∀ (ss : List Nat) (t : List Value) (a : Act), putAll a ss t = putAll a (ss.take t.length) t
  | [], t, a => by simp
  | s :: ss, [], a => rfl
  | s :: ss, u :: t, a => by
    simp only [List.length_cons, List.take_succ_cons, putAll]
    exact putAll_take ss t _
theorem putAll_at : ∀ (ss : List Nat) (t : List Value) (a : Act) (p s : Nat) (v : Value), ss.Nodup → ss[p]? = some s → t[p]? = some v → s < a.tmps.size → (putAll a ss t).tmps[s]? = some v
  | [], t, a, p, s, v, hn, h, hv, hs => by simp at h
  | s :: ss, [], a, p, s', v, hn, h, hv, hs => by simp at hv
  | s :: ss, u :: t, a, 0, s', v, hn, h, hv, hs => by
    simp only [List.getElem?_cons_zero, Option.some.injEq] at h hv
    subst h hv
    simp only [putAll]
    rw [putAll_out ss t _ s (List.nodup_cons.1 hn).1, put_tmps]
    simp [hs]
  | s :: ss, u :: t, a, p + 1, s', v, hn, h, hv, hs => by
    simp only [List.getElem?_cons_succ] at h hv
    simp only [putAll]
    exact putAll_at ss t _ p s' v (List.nodup_cons.1 hn).2 h hv (by simpa [put_tmps] using hs)
/-- what is known of the frame where an operation stands: t: the answers of those ahead of it, the last one first -/
structure SqE (a0 : Act) (n : Nat) (ss : List Nat) (t : List Value) (a : Act) : Prop where
  out : ∀ s : Nat, s ∉ ss → a.eval (.tmp s) = a0.eval (.tmp s)
  sz : ∀ s : Nat, s < n → s < a.tmps.size
  on : ∀ (k p s : Nat) (v : Value), ss[k]? = some s → t[p]? = some v → p + k + 1 = t.length → s < n → a.eval (.tmp s) = v
  yet : ∀ (k s : Nat), t.length ≤ k → ss[k]? = some s → a.eval (.tmp s) = a0.eval (.tmp s)
section
variable {P : Program} {ops : Array Oper} {Q : Exit → Act → World → Prop} {a0 : Act} {n : Nat} {ss : List Nat} {c : List Nat} {i : Nat} {o : Oper} {t : List Value} {w w' : World} {a : Act}
theorem SqE.v (E : SqE a0 n ss t a) {k : Nat} {v : Value} (h : a0.eval (.tmp k) = v) (hk : k ∉ ss := by decide) : a.eval (.tmp k) = v := (E.out k hk).trans h
theorem SqE.y (E : SqE a0 n ss t a) (k : Nat) {s : Nat} {v : Value} (h : a0.eval (.tmp s) = v) (hs : ss[k]? = some s := by rfl) (hk : Nat.ble t.length k = true := by rfl) : a.eval (.tmp s) = v := (E.yet k s (Nat.le_of_ble_eq_true hk) hs).trans h
theorem SqE.d (E : SqE a0 n ss t a) (k p : Nat) {s : Nat} {v : Value} (hs : ss[k]? = some s := by rfl) (hv : t[p]? = some v := by rfl) (hp : p + k + 1 = t.length := by rfl) (hn : s < n := by decide) : a.eval (.tmp s) = v := E.on k p s v hs hv hp hn
theorem SqE.q (E : SqE a0 n ss t a) (k p : Nat) {s : Nat} {v x : Value} {b : Bool} (h : (b = true → v = x) ∧ (b = false → v = undef)) (hs : ss[k]? = some s := by rfl) (hv : t[p]? = some v := by rfl) (hp : p + k + 1 = t.length := by rfl) (hn : s < n := by decide) : (b = true → a.eval (.tmp s) = x) ∧ (b = false → a.eval (.tmp s) = undef) := by
  rw [E.on k p s v hs hv hp hn]
  exact h
def QSeq (P : Program) (ops : Array Oper) (Q : Exit → Act → World → Prop) (a0 : Act) (n : Nat) (ss : List Nat) : List Nat → List Value → World → Prop
  | [], t, w => Q .normal (putAll a0 ss t.reverse) w
  | i :: c, t, w => ∀ a, SqE a0 n ss t a → wpOp P ops Q i (fun a' w' => ∃ o v, ops[i]? = some o ∧ a' = a.put o.dst v ∧ QSeq P ops Q a0 n ss c (v :: t) w') a w
theorem QSeq.go (h : ∀ a, SqE a0 n ss t a → wpOp P ops Q i (fun a' w' => ∃ v, a' = a.put o.dst v ∧ QSeq P ops Q a0 n ss c (v :: t) w') a w) (ho : ops[i]? = some o := by rfl) : QSeq P ops Q a0 n ss (i :: c) t w :=
  fun a E => wpOp_mono (fun a' w' ⟨v, e, hq⟩ => ⟨o, v, ho, e, hq⟩) (h a E)
theorem QSeq.nil {t' : List Value} (e : t.reverse = t') (h : Q .normal (putAll a0 ss t') w) : QSeq P ops Q a0 n ss [] t w := by subst e; exact h
theorem QSeq.pure {v' : Value} (ho : ops[i]? = some o) (v : Value) (hs : ∀ {a}, SqE a0 n ss t a → (execOp a.eval o).run P w = .ok (.value v') w) (h : QSeq P ops Q a0 n ss c (v :: t) w) (hg : o.guard = none := by rfl) (hv : v' = v := by rfl) : QSeq P ops Q a0 n ss (i :: c) t w :=
  QSeq.go (fun a E => qc_run ho (wanted_none hg) (hv ▸ hs E) h) ho
theorem QSeq.pureG {v' : Value} (ho : ops[i]? = some o) (v : Value) (hw : ∀ {a}, SqE a0 n ss t a → Region.wanted o (yielded ops a.tmps) = true) (hs : ∀ {a}, SqE a0 n ss t a → (execOp a.eval o).run P w = .ok (.value v') w) (h : QSeq P ops Q a0 n ss c (v :: t) w) (hv : v' = v := by rfl) : QSeq P ops Q a0 n ss (i :: c) t w :=
  QSeq.go (fun a E => qc_run ho (hw E) (hv ▸ hs E) h) ho
theorem QSeq.skip (ho : ops[i]? = some o) (hw : ∀ {a}, SqE a0 n ss t a → Region.wanted o (yielded ops a.tmps) = false) (h : QSeq P ops Q a0 n ss c (undef :: t) w) : QSeq P ops Q a0 n ss (i :: c) t w := by
  refine QSeq.go (fun a E => ?_) ho
  unfold wpOp
  rw [ho]
  simp only [hw E]
  exact ⟨undef, rfl, h⟩
/-- one that a test may leave out -/
theorem QSeq.may {b : Bool} {x' : Value} (ho : ops[i]? = some o) (x : Value) (hw : ∀ {a}, SqE a0 n ss t a → Region.wanted o (yielded ops a.tmps) = b) (hs : ∀ {a}, SqE a0 n ss t a → b = true → (execOp a.eval o).run P w = .ok (.value x') w)
    (h : ∀ v, ((b = true → v = x) ∧ (b = false → v = undef)) → QSeq P ops Q a0 n ss c (v :: t) w) (hv : x' = x := by rfl) : QSeq P ops Q a0 n ss (i :: c) t w := by
  cases b with
  | false => exact QSeq.skip ho hw (h undef ⟨(fun e => by cases e), fun _ => rfl⟩)
  | true => exact QSeq.pureG ho x hw (fun E => hs E rfl) (h x ⟨fun _ => rfl, fun e => by cases e⟩) hv
theorem wp_region_S {id : Nat} (n : Nat) (hn : a0.tmps.size = n) (ss : List Nat) (c : List Nat) (h : QSeq P ops Q a0 n ss c [] w) (hc : c = List.range ops.size := by kernel_rfl) (hss : okSlots ops n ss = true := by kernel_rfl) (hnd : ss.Nodup := by decide) : (Code.region id ops false).wp P Q a0 w := by
  subst hc
  refine wp_region ?_
  have key : ∀ (m i : Nat) (t : List Value) (w : World), i + m = ops.size → t.length = i → QSeq P ops Q a0 n ss (List.range' i m) t w → wpOps P ops Q (List.range' i m) (putAll a0 ss t.reverse) w := by
    intro m
    induction m with
    | zero => intro i t w _ _ h; exact h
    | succ m ih =>
      intro i t w him hti h
      rw [List.range'_succ] at h ⊢
      rw [wpOps_cons]
      refine wpOp_mono ?_ (h (putAll a0 ss t.reverse) ⟨fun s hs => eval_out _ _ _ _ hs, fun s hs => by rw [putAll_size, hn]; exact hs, fun k p s v hk hv hp hsn => ?_, fun k s hk hks => ?_⟩)
      · rintro a' w' ⟨o, v, ho, rfl, hq⟩
        obtain ⟨s, hs, hds⟩ := okSlots_at hss ho
        have e : (putAll a0 ss t.reverse).put o.dst v = putAll a0 ss (v :: t).reverse := by
          have e1 := putAll_snoc ss t.reverse a0 s v (by rw [List.length_reverse, hti]; exact hs)
          rw [List.reverse_cons]
          rcases hds with ⟨h1, h2⟩ | ⟨h1, h2⟩
          · rw [h1]; exact e1
          · rw [h1, ← e1, put_far _ (by rw [putAll_size, hn]; exact h2)]; rfl
        rw [e]
        exact ih (i + 1) (v :: t) w' (by omega) (by simp [hti]) hq
      · have hv' : t.reverse[k]? = some v := by
          rw [List.getElem?_reverse (by omega), show t.length - 1 - k = p by omega]
          exact hv
        have := putAll_at ss t.reverse a0 k s v hnd hk hv' (by rw [hn]; exact hsn)
        simp only [Act.eval, Array.getD_eq_getD_getElem?]
        rw [this]
        rfl
      · rw [putAll_take]
        refine eval_out _ _ _ _ fun hm => ?_
        obtain ⟨j, hj, e⟩ := List.getElem_of_mem hm
        rw [List.getElem_take] at e
        have hj2 : j < t.length := by rw [List.length_take, List.length_reverse] at hj; omega
        have hj3 : ss[j]? = some s := by rw [← e]; exact List.getElem?_eq_getElem _
        have := (List.getElem?_inj (List.getElem?_eq_some_iff.1 hj3).1 hnd).1 (hj3.trans hks.symm)
        omega
  rw [List.range_eq_range'] at h ⊢
  have hk := key ops.size 0 [] w (by omega) rfl h
  rw [show putAll a0 ss ([] : List Value).reverse = a0 by cases ss <;> rfl] at hk
  exact hk
/-- a new variable, with what is in it -/
theorem qc_box {KQ : Value → World → Prop} {ty : TypeId} {x : Operand} (ho : ops[i]? = some o) (hw : Region.wanted o (yielded ops a.tmps) = true) (hop : o.op = .box ty x) {vs : List Value} (hx : (a.eval x).cells = vs.toArray)
    (h : ∀ w', Cs w' w.heap.size vs.toArray ty → Mod (fun _ => False) w w' → KQ (.pointer (some ⟨w.heap.size, 0, none⟩)) w') : wpOp P ops Q i (fun a' w' => ∃ v, a' = a.put o.dst v ∧ KQ v w') a w := by
  have hr : (execOp a.eval o).run P w = .ok (.value (.pointer (some ⟨w.heap.size, 0, none⟩))) (w.alloc (.cells vs.toArray ty)) := by
    unfold execOp
    simp [hop, Instr.box, newVar, newRow, hx]
  exact qc_run ho hw hr (h _ (Cs.new _ _ _) ((Mod.refl _ _).alloc _))
theorem beq_t (b : Bool) : (b == true) = b := by cases b <;> rfl
theorem Mod.goS {S S' T : Nat → Prop} {w a b : World} (h : Mod S w a) (hm : Mod T a b) (hS : ∀ k, S k → S' k) (hT : ∀ k, k < w.heap.size → T k → S' k) : Mod S' w b := (h.mono (fun k _ h => hS k h)).trans hm hT
theorem Mod.goE {S : Nat → Prop} {w a b : World} (h : Mod S w a) (hm : Mod (fun _ => False) a b) : Mod S w b := h.trans hm (fun _ _ h => h.elim)
theorem ev {a1 a0 : Act} (h : Hid (a1 = a0)) (k : Nat) {v : Value} (e : a1.tmps.toList[k]? = some v) : a0.eval (.tmp k) = v := by
  have h := h.out
  subst h
  simp only [Act.eval, Array.getD_eq_getD_getElem?]
  rw [← Array.getElem?_toList, e]
  rfl
theorem wp_region_U {id : Nat} {a1 : Act} (n : Nat) (ss : List Nat) (c : List Nat) (h : ∀ a0, Hid (a1 = a0) → QSeq P ops Q a0 n ss c [] w) (hn : a1.tmps.size = n := by rfl) (hc : c = List.range ops.size := by kernel_rfl) (hss : okSlots ops n ss = true := by kernel_rfl) (hnd : ss.Nodup := by decide) : (Code.region id ops false).wp P Q a1 w :=
  wp_region_S n hn ss c (h a1 rfl) hc hss hnd
theorem Cs.eqv {g : Nat} {a b : Array Value} {T : TypeId} (h : Cs w g a T) (e : a = b) : Cs w g b T := e ▸ h
theorem one1 {v : Value} (h : v.oneCell' = true := by rfl) : ∀ u ∈ [v], u.oneCell' = true := by
  intro u hu
  rw [List.mem_singleton] at hu
  rw [hu]
  exact h
theorem ec {x : Operand} {v : Value} {vs : List Value} (h : a.eval x = v) (e : v.cells = vs.toArray := by rfl) : (a.eval x).cells = vs.toArray := by rw [h]; exact e
theorem sN {R : Nat → Prop} {m : Nat} {x y : World} (hb : Hid (∀ k, R k → k < m)) (h : m ≤ x.heap.size := by omega) : ∀ k, R k → x.heap.size ≤ k ∧ k < y.heap.size → False := fun k h1 h2 => by have := hb.out k h1; omega
theorem pz : (∀ a ss, putAll a ss [] = a) ∧ (∀ a s ss v vs, putAll a (s :: ss) (v :: vs) = putAll (a.put (some s) v) ss vs) := ⟨fun a ss => by cases ss <;> rfl, fun _ _ _ _ _ => rfl⟩
theorem QSeq.call {F : FuncId} {xs : Array Operand} {ts : Array TypeId} {args : Array Value} {post : Ending → World → Prop} {fn : Func} (ho : ops[i]? = some o) (hop : o.op = .call { callee := .value (.func F), args := xs, argTypes := ts }) (hf : P.funcs[F]? = some fn)
    (hcl : Calls P F args w post) (ha : ∀ {a}, SqE a0 n ss t a → xs.map a.eval = args) (hp : ∀ e w', post e w' → ∃ v, e = .returned v ∧ QSeq P ops Q a0 n ss c (v :: t) w') (hg : o.guard = none := by rfl) (hn : (fn.name == "runtime.NumGoroutine") = false := by kernel_rfl) (hb : fn.body.isNone = false := by kernel_rfl) : QSeq P ops Q a0 n ss (i :: c) t w :=
  QSeq.go (fun a E => qc_callF ho (wanted_none hg) hop hf (ha E) hcl hp hn hb) ho
end
end Go.Gv

/- gavelref01: numbers and rows as bytes. -/
namespace Go.Proofs.Ythojipjleajajaa
open Go Go.RowKit Go.Gv

/-- the blocks of what an append gave: those before, or new ones since w -/
theorem AppB.trans {w0 w w' : World} {v v' : Value} {bs : List Int} (h : AppB w v bs v' w') (hm : Mod (fun _ => False) w0 w) (hf : Fresh w0 v) : Mod (fun _ => False) w0 w' ∧ Fresh w0 v' := by
  obtain ⟨h1, h2, h3⟩ := h
  refine ⟨hm.trans h2 (fun i hi hk => by have := hf i hk.symm; omega), fun g hg => ?_⟩
  rcases h3 with h3 | ⟨k, h3, hk⟩
  · exact hf g (h3 ▸ hg)
  · rw [h3] at hg
    obtain rfl : k = g := by simpa using hg
    exact Nat.le_trans hm.size hk

theorem RefNum_any (n : Nat) (hn : n < U64) (w : World) :
    Calls Try.prog 57 #[.int .u64 n] w fun e w' => ∃ v', e = .returned v' ∧ OwnB w' v' (encN n) ∧ Fresh w v' ∧ Mod (fun _ => False) w w' := by
  have hen := encN_len10 hn
  have HN := Lib.hid hn
  clear hn
  go_enter Try.func57, Try.ntmps57
  go_wp2
  go_loopw [0, 3] (fun t o wr => ∃ (m : Nat) (bs' : List Int) (ao : Option Addr) (cap : Nat), t = .int .u64 m ∧ m ≤ n ∧ bs' ++ encN m = encN n ∧ o = .slice ao bs'.length cap ∧ OwnB wr (.slice ao bs'.length cap) bs' ∧ Fresh w (.slice ao bs'.length cap) ∧ Mod (fun _ => False) w wr) (fun t _ _ => (intOf t).toNat)
  case atStart => exact ⟨n, [], none, 0, rfl, Nat.le_refl _, rfl, rfl, OwnB.nil _, (fun g hg => by cases hg), Mod.refl _ _⟩
  case round =>
    obtain ⟨m, bs', ao, cap, rfl, hm, hbs, rfl, ho, hfr, hmod⟩ := hrel
    have hlen : bs'.length + (encN m).length = (encN n).length := by have := congrArg List.length hbs; simpa using this
    have hpos := encN_pos m
    have hroom : bs'.length + 1 ≤ Room := by unfold Room; omega
    have Hbs := Lib.hid hbs
    have Hfr := Lib.hid hfr
    have Hm := Lib.hid hmod
    have Hr := Lib.hid hroom
    have HO := Lib.hid ho
    clear hbs hfr hmod hlen hroom hpos hen ho
    have hdv : IntKind.u64.wrap ((m : Int) / 128) = (m : Int) / 128 := by
      have := HN.out
      unfold U64 at this
      simp only [IntKind.wrap, IntKind.bits, IntKind.signed]; simp; omega
    by_cases h128 : (128 : Int) ≤ m
    · go_wp2_with (at_builtin; go_must (refine wpList_appB rfl (.tmp 6) (.tmp 11) rfl rfl (HO.out.alloc _) (new := [(m : Int) % 128 + 128]) rfl (RdB_one _ (by omega) (by omega) _) Hr.out ?_))
      intro ao1 cap1 w1 happ
      have hT := AppB.trans happ (Hm.out.alloc _) Hfr.out
      have HT := Lib.hid hT
      have HO1 := Lib.hid happ.1
      clear hT happ
      go_wp2
      go_roundw
      case rel => exact ⟨m / 128, bs' ++ [(m : Int) % 128 + 128], ao1, cap1, by go_num, by omega, by have := Hbs.out; rw [encN_ge (by omega)] at this; simpa using this, by simp, by simpa using HO1.out, by simpa using HT.out.2, HT.out.1⟩
      case measure => simp [intOf]; omega
    · go_wp2_with (at_builtin; go_must (refine wpList_appB rfl (.tmp 15) (.tmp 18) rfl rfl (HO.out.alloc _) (new := [(m : Int)]) rfl (RdB_one _ (by omega) (by omega) _) Hr.out ?_))
      intro ao1 cap1 w1 happ
      have hT := AppB.trans happ (Hm.out.alloc _) Hfr.out
      have HT := Lib.hid hT
      have HO1 := Lib.hid happ.1
      clear hT happ
      go_wp2
      go_ret
      have hb := Hbs.out
      rw [encN_lt (by omega)] at hb
      rw [← hb]
      exact ⟨_, rfl, HO1.out, HT.out.2, HT.out.1⟩

theorem RefNum_R (n : Nat) (hn : n < U64) (w : World) :
    Calls Try.prog 57 #[.int .u64 n] w fun e w' => ∃ v', e = .returned v' ∧ OwR (New w w') 10 w' v' (encN n) ∧ Mod (fun _ => False) w w' :=
  (RefNum_any n hn w).mono fun _ _ ⟨v', he, ho, hf, hm⟩ => ⟨v', he, OwR_of 10 ho hf (encN_len10 hn).2, hm⟩

theorem RefInt_R (n : Int) (hn : -9223372036854775808 ≤ n ∧ n ≤ 9223372036854775807) (w : World) :
    Calls Try.prog 52 #[.int .i64 n] w fun e w' => ∃ v', e = .returned v' ∧ OwR (New w w') 10 w' v' (encI n) ∧ Mod (fun _ => False) w w' := by
  by_cases h0 : 0 ≤ n
  · obtain ⟨k, rfl⟩ := Int.eq_ofNat_of_zero_le h0
    rw [encI_nat]
    have K := Lib.hid (RefNum_R k (by unfold U64; omega))
    go_enter Try.func52, Try.ntmps52
    go_wp2_with (go_at_call 57; go_must (refine (K.out _).mono ?_); rintro e w' ⟨v', rfl, h1, h2⟩; have H1 := Lib.hid h1; have H2 := Lib.hid h2; clear h1 h2)
    go_ret
    exact ⟨v', rfl, H1.out, H2.out⟩
  · have e : encI n = encN 0 := by unfold encI; congr 1; omega
    rw [e]
    have K := Lib.hid (RefNum_R 0 (by unfold U64; omega))
    clear e
    go_enter Try.func52, Try.ntmps52
    go_wp2_with (go_at_call 57; go_must (refine (K.out _).mono ?_); rintro e w' ⟨v', rfl, h1, h2⟩; have H1 := Lib.hid h1; have H2 := Lib.hid h2; clear h1 h2)
    go_ret
    exact ⟨v', rfl, H1.out, H2.out⟩

theorem RefRow_R {R : Nat → Prop} {N : Nat} {v : Value} {bs : List Int} {w : World} (hr : RdR R N w v bs) (hN : N ≤ 900000) :
    Calls Try.prog 46 #[v] w fun e w' => ∃ v', e = .returned v' ∧ OwR (New w w') (N + 10) w' v' (encN bs.length ++ bs) ∧ Mod (fun _ => False) w w' := by
  obtain ⟨ao, cap, rfl⟩ := hr.shape
  have K := Lib.hid (RefInt_R bs.length (by have := hr.2.2; omega))
  have HR := Lib.hid hr
  have HL := Lib.hid (show bs.length < U64 by have := hr.2.2; unfold U64; omega)
  clear hr
  go_enter Try.func46, Try.ntmps46
  go_wp2_with (first
    | (go_at_call 52; go_must (refine (K.out _).mono ?_); rintro e w1 ⟨v1, rfl, h1, h2⟩; rw [encI_nat] at h1; have z1 := h2.size; have H1 := Lib.hid h1; have H2 := Lib.hid h2; have HR1 := Lib.hid (HR.out.mod h2 (fun _ _ h => h)); clear h1 h2)
    | (at_builtin; go_must (refine wpList_appR rfl (.tmp 5) (.tmp 6) rfl rfl H1.out rfl HR1.out (by omega) ?_)))
  intro ao2 cap2 w2 ho hm
  have z2 := hm.size
  have HO := Lib.hid ho
  have HM := Lib.hid hm
  clear ho hm
  go_wp2
  go_ret
  exact ⟨_, rfl, HO.out.widen (fun k h => by unfold New at *; omega) (by omega), H2.out.trans HM.out (fun i hi h => by unfold New at h; omega)⟩
end Go.Proofs.Ythojipjleajajaa

/- gavelref01.join: bytes, one behind the other; a region that joins what calls answer. -/
namespace Go.Gv
open Go Go.RowKit
section
variable {P : Program} {o : Oper} {a : Act} {w w' : World}
/-- a row of slices is made -/
theorem ex_buildSl {ts T : TypeId} {n : Nat} {parts : Array (Nat × Operand)} (ho : o.op = .buildSlice ts n parts) (hu : P.underlying ts = some (.slice T)) (hie : (P.info? T).map (fun i => (i.size, i.zero)) = some (1, some (.slice none 0 0))) (hn : n ≠ 0 ∧ n ≤ 1000) {C : Array Value}
    (hf : Instr.fill (fun i => some (i * 1, 1)) ((Array.range (n * 1)).map (#[Value.slice none 0 0][· % 1]!)) (parts.map fun (i, x) => (i, a.eval x)).toList = some C) :
    (execOp a.eval o).run P w = .ok (.value (.slice (some ⟨w.heap.size, 0, none⟩) n n)) (w.alloc (.cells C T)) := by
  cases hq : P.info? T with
  | none => rw [hq] at hie; cases hie
  | some ie =>
    rw [hq] at hie
    have e := Option.some.inj hie
    have e1 : ie.size = 1 := congrArg Prod.fst e
    have e2 : ie.zero = some (.slice none 0 0) := congrArg Prod.snd e
    have hr := run_buildSlice (P := P) w ts T n (parts.map fun (i, x) => (i, a.eval x)) C ie (.slice none 0 0) hu hq e2 (by rw [e1]; omega) (by rw [e1]; omega) (by rw [e1]; exact hf)
    unfold execOp
    simp only [ho, Sem.run_bind, hr, Result.andThen_ok, Sem.run_pure]
end
/-- marks turn no cell -/
theorem Marked.cell {B : Nat} {T8 : TypeId} {w w' : World} (hm : Marked B T8 w w') {p : Addr} {u : Value} (h : w.cell? p = some u) : w'.cell? p = some u := by
  have hlt := World.block_lt_of_cell? _ _ h
  rcases hm.block p.block hlt with h1 | ⟨-, C, m, h1, h2⟩
  · exact (World.cell?_of_block h1).trans h
  · unfold World.cell? at h ⊢
    rw [h1] at h
    rw [h2]
    exact h
theorem Rd.cells {s n : Nat} {w w' : World} {v : Value} {cs : List Value} (h : Rd s w v n cs) (hc : ∀ p u, w.cell? p = some u → w'.cell? p = some u) : Rd s w' v n cs := by
  obtain ⟨hl, ao, cap, rfl, h1, h2, h3, h4⟩ := h
  exact ⟨hl, ao, cap, rfl, h1, h2, h3, fun x hx j u hu => ⟨(h4 x hx j u hu).1, hc _ _ (h4 x hx j u hu).2⟩⟩
theorem Rd.old {s n : Nat} {w : World} {v : Value} {cs : List Value} (hs : 0 < s) (h : Rd s w v n cs) (h0 : 0 < n) : ∀ g, v.ownBlock = some g → g < w.heap.size := by
  rcases h.form hs with ⟨rfl, _⟩ | ⟨g, o, cap, _, rfl, _, _, hl, hc⟩
  · omega
  · intro g' hg
    have e : g = g' := by simpa [Value.ownBlock] using hg
    subst e
    have hlt : 0 < cs.length := by rw [hl]; exact Nat.mul_pos h0 hs
    exact World.block_lt_of_cell? _ _ (hc 0 _ (List.getElem?_eq_getElem hlt))
end Go.Gv
namespace Go.Proofs.Ythojipjleajajaa
open Go Go.RowKit Go.Gv

theorem RdB.cells {w w' : World} {v : Value} {bs : List Int} (h : RdB w v bs) (hc : ∀ p u, w.cell? p = some u → w'.cell? p = some u) : RdB w' v bs := ⟨h.1, h.2.cells hc⟩
/-- rows of bytes: the outer list, and each row where it lies -/
structure RdJ (w : World) (v : Value) (rs : List (Value × List Int)) : Prop where
  o : Rd 1 w v rs.length (rs.map (·.1))
  f : ∀ p ∈ rs, RdB w p.1 p.2
theorem RdJ.cells {w w' : World} {v : Value} {rs : List (Value × List Int)} (h : RdJ w v rs) (hc : ∀ p u, w.cell? p = some u → w'.cell? p = some u) : RdJ w' v rs := ⟨h.o.cells hc, fun p hp => (h.f p hp).cells hc⟩
theorem RdJ.shape {w : World} {v : Value} {rs : List (Value × List Int)} (h : RdJ w v rs) : ∃ ao cap, v = .slice ao rs.length cap := by
  obtain ⟨_, ao, cap, e, _⟩ := h.o
  exact ⟨ao, cap, e⟩
theorem RdJ.at {w : World} {ao : Option Addr} {n cap : Nat} {rs : List (Value × List Int)} (h : RdJ w (.slice ao n cap) rs) {i : Nat} (hi : i < rs.length) :
    ∃ g o, ao = some ⟨g, o, none⟩ ∧ g < w.heap.size ∧ w.cell? ⟨g, o + i, none⟩ = some rs[i].1 := by
  rcases h.o.form (by decide) with ⟨h0, _⟩ | ⟨g, o, cap', h0, hv, h1, h2, hl, hc⟩
  · omega
  · simp only [Value.slice.injEq] at hv
    obtain ⟨rfl, rfl, rfl⟩ := hv
    exact ⟨g, o, rfl, h.o.old (by decide) h0 g rfl, hc i _ (by simp [List.getElem?_eq_getElem hi])⟩
/-- a new outer list -/
theorem RdJ.new {w : World} {e : TypeId} {rs : List (Value × List Int)} (h : ∀ p ∈ rs, RdB w p.1 p.2) (hl : rs.length ≤ 1000) {C : Array Value} (hC : C = (rs.map (·.1)).toArray) {n : Nat} (hn : n = rs.length) : RdJ (w.alloc (.cells C e)) (.slice (some ⟨w.heap.size, 0, none⟩) n n) rs := by
  subst hC
  subst hn
  refine ⟨Rd.mk (Nat.le_refl _) (by rw [maxLen_val]; omega) (by simp) fun j y hy => ?_, fun p hp => (h p hp).alloc _⟩
  rw [Nat.zero_add, (Cs.new w _ e).cell]
  simpa using hy
theorem litG.rd {B K : Nat} {bs : List Int} {t : List Value} {v : Value} {w : World} (h : litG B 5 K (bs.map bv).toArray t v w) (hk : t.length ≤ K) (hb : Bytes bs) (hl : bs.length ≤ 1000000) : RdB w v bs := by
  obtain ⟨g, rfl, -, m, -, h4⟩ := h hk
  have e : (bs.map bv).toArray.size = bs.length := by simp
  rw [e]
  refine ⟨hb, Rd.mk (Nat.le_refl _) (by rw [maxLen_val]; omega) (by simp) fun j y hy => ?_⟩
  rw [Nat.zero_add]
  simp only [World.cell?, h4]
  simpa using hy
theorem StillM.obj {B K k : Nat} {w w' : World} (h : StillM B 5 K k w w') {g : Nat} {c : Array Value} {e : TypeId} (hc : Cs w g c e) (he : e ≠ 5) : Cs w' g c e := by
  rcases h with h | ⟨-, h⟩
  · exact hc.mod h (fun h => h)
  · rcases h.block g hc.lt with h1 | ⟨-, C, m, h1, -⟩
    · exact h1.trans hc
    · unfold Cs at hc
      rw [hc] at h1
      cases h1
      exact absurd rfl he
end Go.Proofs.Ythojipjleajajaa

/- Bytes in regions told step by step: appends, rows of rows, strings as bytes, writers' ends. -/
namespace Go.Proofs.Ythojipjleajajaa
open Go Go.RowKit Go.Gv

section
variable {ops : Array Oper} {Q : Exit → Act → World → Prop} {i : Nat} {o : Oper} {a : Act} {w : World} {KQ : Value → World → Prop} {B : Nat} {S0 Z : Nat → Prop} {t : List Value} {l : List QPred}
/-- one of the chain appends bytes -/
theorem qc_appR {s x : Operand} {R R' : Nat → Prop} {N M : Nat} {v xv : Value} {bs new : List Int} (ho : ops[i]? = some o) (hw : Region.wanted o (yielded ops a.tmps) = true) (hop : o.op = .call { callee := .builtin .append, args := #[s, x], argTypes := #[22, 22] })
    (hs : a.eval s = v) (hx : a.eval x = xv) (hown : OwR R N w v bs) (hrd : RdR R' M w xv new) (hroom : (bs ++ new).length ≤ 900000)
    (h : ∀ ao cap w', OwR (fun k => R k ∨ New w w' k) 900000 w' (.slice ao (bs.length + new.length) cap) (bs ++ new) → Mod R w w' → KQ (.slice ao (bs.length + new.length) cap) w') : wpOp Try.prog ops Q i (fun a' w' => ∃ v, a' = a.put o.dst v ∧ KQ v w') a w := by
  obtain ⟨i0, hi, hz0, hz1, hz2⟩ := info_parts info_u8
  have hlen : bs.length + new.length ≤ 900000 := by simpa using hroom
  obtain ⟨ao, cap, w', hr, h1, h2, h3⟩ := run_append (P := Try.prog) w 22 o.type 5 i0 (.int .u8 0) 1 1 Try.underlying22 hi hz0 hz1 hz2 rfl (by decide) IsB_zero v _ _ hown.1 xv new.length (new.map bv) hrd.1.2 (isB_all hrd.1.1) (ints_oneCell .u8 new) (by omega) (by rw [maxLen_val]; omega)
  refine qc_run ho hw (ex_append hop hs hx hr) (h ao cap w' ⟨?_, (fun g hg => ?_), hroom⟩ (h2.mono (fun k _ hk => hown.2.1 k hk.symm)))
  · unfold OwnB
    rw [List.length_append, List.map_append]
    exact h1
  · rcases h3 with h3 | ⟨k, h3, hk⟩
    · exact .inl (hown.2.1 g (h3 ▸ hg))
    · rw [h3] at hg
      obtain rfl : k = g := by simpa using hg
      exact .inr ⟨hk, Own.lt h1 h3⟩
/-- one of the chain makes a row of rows -/
theorem qc_rows {ts : TypeId} {n : Nat} {parts : Array (Nat × Operand)} (ho : ops[i]? = some o) (hw : Region.wanted o (yielded ops a.tmps) = true) (hop : o.op = .buildSlice ts n parts) (hu : Try.prog.underlying ts = some (.slice 22)) (hn : n ≠ 0 ∧ n ≤ 1000) {C : Array Value}
    (hf : Instr.fill (fun i => some (i * 1, 1)) ((Array.range (n * 1)).map (#[Value.slice none 0 0][· % 1]!)) (parts.map fun (i, x) => (i, a.eval x)).toList = some C)
    (h : ∀ w', Cs w' w.heap.size C 22 → Mod (fun _ => False) w w' → KQ (.slice (some ⟨w.heap.size, 0, none⟩) n n) w') : wpOp Try.prog ops Q i (fun a' w' => ∃ v, a' = a.put o.dst v ∧ KQ v w') a w :=
  qc_run ho hw (ex_buildSl hop hu (by kernel_rfl) hn hf) (h _ (Cs.new _ _ _) ((Mod.refl _ _).alloc _))
theorem ql.rd {bs : List Int} {v : Value} (hb : Bytes bs) (h : ql B 5 (bs.map bv).toArray Z t v w) (hl : bs.length ≤ 1000000) : ∃ R : Nat → Prop, (∀ j, R j → B ≤ j ∧ ¬ Z j ∧ j < w.heap.size) ∧ RdR R bs.length w v bs := by
  obtain ⟨g, rfl, hB, hZ, m, h4⟩ := h
  have e : (bs.map bv).toArray.size = bs.length := by simp
  refine ⟨fun k => k = g, fun j hj => by subst hj; exact ⟨hB, hZ, (Array.getElem?_eq_some_iff.1 h4).1⟩, ⟨hb, ?_⟩, fun _ k hk => by cases hk; rfl, Nat.le_refl _⟩
  rw [e]
  refine Rd.mk (Nat.le_refl _) (by rw [maxLen_val]; omega) (by simp) fun j y hy => ?_
  rw [Nat.zero_add]
  simp only [World.cell?, h4]
  simpa using hy
theorem NewWriter_Q (w : World) : Calls Try.prog 38 #[] w fun e w' => ∃ b, e = .returned (.pointer (some ⟨b, 0, none⟩)) ∧ WrR (New w w') 900000 w' b [] ∧ Mod (fun _ => False) w w' :=
  (NewWriter_R w).mono fun e w' ⟨b, he, h, hm⟩ => ⟨b, he, h.widen (fun _ h => h) (by omega), hm⟩
theorem WBytes_Q {R : Nat → Prop} {b : Nat} {bs : List Int} {w : World} (hW : WrR R 900000 w b bs) :
    Calls Try.prog 40 #[.pointer (some ⟨b, 0, none⟩)] w fun e w' => ∃ v', e = .returned v' ∧ OwR (New w w') 900000 w' v' bs ∧ Mod (fun _ => False) w w' := WBytes_R hW (by omega)
end
end Go.Proofs.Ythojipjleajajaa

/- disk.Disk: each method, as a function of what the disk holds. -/
namespace Go.Proofs.Ythojipjleajajaa
open Go Go.RowKit Go.Gv

structure DS where
  b : List Int
  sy : Nat
  fu : Nat
  lit : Bool
  dead : Bool
def dZero : DS := ⟨[], 0, 0, false, false⟩
def dEnds (s : DS) : Bool := s.dead || (s.lit && decide (s.fu = 0))
def dStep (s : DS) : DS := ⟨s.b, s.sy, if !dEnds s && s.lit then s.fu - 1 else s.fu, s.lit, dEnds s⟩
def dAppend (s : DS) (cs : List Int) : DS := if (dStep s).dead then dStep s else { dStep s with b := s.b ++ cs }
def dSync (s : DS) : DS := if (dStep s).dead then dStep s else { dStep s with sy := s.b.length }
def dFuse (s : DS) (n : Nat) : DS := { s with lit := true, fu := n }
def dErr (s : DS) : Int := if (dStep s).dead then 9 else 0
def dCrash (s : DS) (keep : Nat) : DS := ⟨s.b.take (s.sy + min keep (s.b.length - s.sy)), s.sy + min keep (s.b.length - s.sy), 0, false, false⟩
def dCut (s : DS) (n : Nat) : DS := if (dStep s).dead then dStep s else { dStep s with b := s.b.take n, sy := min s.sy n }

def Dk (w : World) (p : Nat) (v : Value) (s : DS) : Prop :=
  Cs w p #[v, .int .i64 s.sy, .int .i64 s.fu, .bool s.lit, .bool s.dead] 60 ∧ OwnB w v s.b ∧ (∀ g, v.ownBlock = some g → g ≠ p) ∧ s.sy ≤ s.b.length ∧ (s.fu : Int) ≤ 9223372036854775807
def DkR (R : Nat → Prop) (N : Nat) (w : World) (p : Nat) (s : DS) : Prop := ∃ v, Dk w p v s ∧ R p ∧ (∀ g, v.ownBlock = some g → R g) ∧ s.b.length ≤ N
section
variable {R R' S : Nat → Prop} {N M : Nat} {w w' : World} {p : Nat} {s s' : DS} {v : Value}
theorem Dk.mod (h : Dk w p v s) (hm : Mod S w w') (hp : ¬ S p) (hv : ∀ g, v.ownBlock = some g → ¬ S g) : Dk w' p v s := ⟨h.1.mod hm hp, OwnB.mod h.2.1 hm hv, h.2.2⟩
theorem DkR.mod (h : DkR R N w p s) (hm : Mod S w w') (hs : ∀ k, R k → S k → False) : DkR R N w' p s := by
  obtain ⟨v, h1, h2, h3, h4⟩ := h
  exact ⟨v, h1.mod hm (hs p h2) (fun g hg => hs g (h3 g hg)), h2, h3, h4⟩
theorem DkR.widen (h : DkR R N w p s) (hs : ∀ k, R k → R' k) (hM : N ≤ M) : DkR R' M w p s := by
  obtain ⟨v, h1, h2, h3, h4⟩ := h
  exact ⟨v, h1, hs p h2, fun g hg => hs g (h3 g hg), Nat.le_trans h4 hM⟩
/-- the cell was turned, the bytes are where they were -/
theorem Dk.turn (h : Dk w p v s) (hc : Cs w' p #[v, .int .i64 s'.sy, .int .i64 s'.fu, .bool s'.lit, .bool s'.dead] 60) (hm : Mod (fun k => k = p) w w') (hb : s'.b = s.b) (hsy : s'.sy ≤ s.b.length) (hfu : (s'.fu : Int) ≤ 9223372036854775807) : Dk w' p v s' := by
  refine ⟨hc, ?_, h.2.2.1, by rw [hb]; exact hsy, hfu⟩
  rw [hb]
  exact OwnB.mod h.2.1 hm h.2.2.1
theorem Dk.shape (h : Dk w p v s) : ∃ ao cap, v = .slice ao s.b.length cap ∧ s.b.length ≤ cap ∧ cap ≤ maxLen := h.2.1.rd.shape
end
theorem OwnB.cut3 {w : World} {ao : Option Addr} {n cap : Nat} {bs : List Int} (h : OwnB w (.slice ao n cap) bs) (k : Nat) (hk : k ≤ bs.length) : OwnB w (.slice ao k k) (bs.take k) := by
  obtain ⟨hl, hE, ⟨hv, hn⟩ | ⟨g, cap', cur, hv, hc, q1, q2, q3, q4, q5⟩⟩ := h
  · simp only [Value.slice.injEq] at hv
    obtain ⟨rfl, _, _⟩ := hv
    obtain rfl : k = 0 := by omega
    exact OwnB.nil w
  · simp only [Value.slice.injEq] at hv
    obtain ⟨rfl, _, rfl⟩ := hv
    have hkl : (bs.take k).length = k := by simp; omega
    refine ⟨by simp, fun u hu => hE u ?_, .inr ⟨g, k, cur, by rw [hkl], hc, by omega, by omega, by omega, ?_, q5⟩⟩
    · rw [List.map_take] at hu; exact List.mem_of_mem_take hu
    · rw [hkl, List.map_take, ← q4, List.take_take]
      congr 1
      omega

theorem New_R (w : World) : Calls Try.prog 8 #[] w fun e w' => ∃ p, e = .returned (.pointer (some ⟨p, 0, none⟩)) ∧ DkR (New w w') 0 w' p dZero ∧ Mod (fun _ => False) w w' := by
  go_enter Try.func8, Try.ntmps8
  go_wp2
  go_ret
  have hc := Cs.new w #[.slice none 0 0, .int .i64 0, .int .i64 0, .bool false, .bool false] 60
  exact ⟨w.heap.size, rfl, ⟨.slice none 0 0, ⟨hc, OwnB.nil _, (fun g hg => by cases hg), Nat.le_refl _, by simp [dZero]⟩, ⟨Nat.le_refl _, hc.lt⟩, (fun g hg => by cases hg), Nat.le_refl _⟩, (Mod.refl _ _).alloc _⟩

theorem step_R {R : Nat → Prop} {N p : Nat} {s : DS} {w : World} (h : DkR R N w p s) :
    Calls Try.prog 41 #[.pointer (some ⟨p, 0, none⟩)] w fun e w' => e = .returned (.bool (!(dStep s).dead)) ∧ DkR R N w' p (dStep s) ∧ Mod R w w' := by
  obtain ⟨v, h1, h2, h3, h4⟩ := h
  have c2 : w.cell? ⟨p, 2, none⟩ = some (.int .i64 s.fu) := (h1.1.cell 2).trans rfl
  have f2 := h1.1.frozen 2
  have c3 : w.cell? ⟨p, 3, none⟩ = some (.bool s.lit) := (h1.1.cell 3).trans rfl
  have f3 := h1.1.frozen 3
  have c4 : w.cell? ⟨p, 4, none⟩ = some (.bool s.dead) := (h1.1.cell 4).trans rfl
  have f4 := h1.1.frozen 4
  have hfu := h1.2.2.2.2
  obtain ⟨b, sy, fu, lit, dead⟩ := s
  dsimp only at *
  have H1 := Lib.hid h1
  have H3 := Lib.hid h3
  have H4 := Lib.hid h4
  clear h1 h3 h4
  have fin : ∀ (s' : DS) (w' : World), Cs w' p #[v, .int .i64 s'.sy, .int .i64 s'.fu, .bool s'.lit, .bool s'.dead] 60 → Mod (fun k => k = p) w w' → s'.b = b → s'.sy = sy → (s'.fu : Int) ≤ 9223372036854775807 → DkR R N w' p s' ∧ Mod R w w' := by
    intro s' w' hc hm hb hsy hf
    have := H1.out.2.2.2.1
    refine ⟨⟨v, H1.out.turn hc hm hb (by rw [hsy]; exact this) hf, h2, H3.out, by rw [hb]; exact H4.out⟩, hm.mono (fun k _ hk => by subst hk; exact h2)⟩
  have FIN := Lib.hid fin
  clear fin
  have run : ∀ (s' : DS), dStep ⟨b, sy, fu, lit, dead⟩ = s' → Calls Try.prog 41 #[.pointer (some ⟨p, 0, none⟩)] w (fun e w' => e = .returned (.bool (!s'.dead)) ∧ DkR R N w' p s' ∧ Mod R w w') → Calls Try.prog 41 #[.pointer (some ⟨p, 0, none⟩)] w (fun e w' => e = .returned (.bool (!(dStep ⟨b, sy, fu, lit, dead⟩).dead)) ∧ DkR R N w' p (dStep ⟨b, sy, fu, lit, dead⟩) ∧ Mod R w w') := by
    intro s' e hh; rw [e]; exact hh
  cases lit <;> cases dead <;> by_cases h0 : fu = 0
  · subst h0
    refine run ⟨b, sy, 0, false, false⟩ (by simp [dStep, dEnds]) ?_
    clear run
    go_enter Try.func41, Try.ntmps41
    go_wp2
    go_ret
    exact ⟨rfl, FIN.out _ _ H1.out.1 (Mod.refl _ _) rfl rfl (by first | exact hfu | (dsimp only; omega))⟩
  · refine run ⟨b, sy, fu, false, false⟩ (by simp [dStep, dEnds, h0]) ?_
    clear run
    go_enter Try.func41, Try.ntmps41
    go_wp2
    go_ret
    exact ⟨rfl, FIN.out _ _ H1.out.1 (Mod.refl _ _) rfl rfl (by first | exact hfu | (dsimp only; omega))⟩
  · subst h0
    refine run ⟨b, sy, 0, false, true⟩ (by simp [dStep, dEnds]) ?_
    clear run
    go_enter Try.func41, Try.ntmps41
    go_wp2
    go_ret
    exact ⟨rfl, FIN.out _ _ H1.out.1 (Mod.refl _ _) rfl rfl (by first | exact hfu | (dsimp only; omega))⟩
  · refine run ⟨b, sy, fu, false, true⟩ (by simp [dStep, dEnds, h0]) ?_
    clear run
    go_enter Try.func41, Try.ntmps41
    go_wp2
    go_ret
    exact ⟨rfl, FIN.out _ _ H1.out.1 (Mod.refl _ _) rfl rfl (by first | exact hfu | (dsimp only; omega))⟩
  · subst h0
    refine run ⟨b, sy, 0, true, true⟩ (by simp [dStep, dEnds]) ?_
    clear run
    go_enter Try.func41, Try.ntmps41
    go_wp2
    go_ret
    exact ⟨rfl, FIN.out _ _ (H1.out.1.set 4 (.bool true)) ((Mod.refl (fun k => k = p) w).setCell (fun _ => rfl) _) rfl rfl (by first | exact hfu | (dsimp only; omega))⟩
  · refine run ⟨b, sy, (fu - 1), true, false⟩ (by simp [dStep, dEnds, h0]) ?_
    clear run
    have hn : ((fu - 1 : Nat) : Int) = (fu : Int) - 1 := by omega
    have HN := Lib.hid hn
    clear hn
    go_enter Try.func41, Try.ntmps41
    go_wp2
    go_ret
    exact ⟨rfl, FIN.out _ _ (by rw [HN.out]; exact H1.out.1.set 2 _) ((Mod.refl (fun k => k = p) w).setCell (fun _ => rfl) _) rfl rfl (by first | exact hfu | (dsimp only; omega))⟩
  · subst h0
    refine run ⟨b, sy, 0, true, true⟩ (by simp [dStep, dEnds]) ?_
    clear run
    go_enter Try.func41, Try.ntmps41
    go_wp2
    go_ret
    exact ⟨rfl, FIN.out _ _ (H1.out.1.set 4 (.bool true)) ((Mod.refl (fun k => k = p) w).setCell (fun _ => rfl) _) rfl rfl (by first | exact hfu | (dsimp only; omega))⟩
  · refine run ⟨b, sy, fu, true, true⟩ (by simp [dStep, dEnds, h0]) ?_
    clear run
    go_enter Try.func41, Try.ntmps41
    go_wp2
    go_ret
    exact ⟨rfl, FIN.out _ _ H1.out.1 (Mod.refl _ _) rfl rfl (by first | exact hfu | (dsimp only; omega))⟩

section
variable {R R' : Nat → Prop} {N M p : Nat} {s : DS} {w : World}
theorem Append_R {v2 : Value} {cs : List Int} (h : DkR R N w p s) (hr : RdR R' M w v2 cs) (hs : ∀ k, R' k → R k → False) (hN : N + M ≤ 1000000) :
    Calls Try.prog 21 #[.pointer (some ⟨p, 0, none⟩), v2] w fun e w' => e = .returned (.int .i64 (dErr s)) ∧ DkR (fun k => R k ∨ New w w' k) (N + M) w' p (dAppend s cs) ∧ Mod R w w' := by
  have K := Lib.hid (step_R h)
  have HR := Lib.hid hr
  have hbN : s.b.length ≤ N := by obtain ⟨_, _, _, _, h4⟩ := h; exact h4
  have hb2 : (dStep s).b = s.b := rfl
  obtain ⟨a2, cap2, rfl⟩ := hr.shape
  have HSY := Lib.hid (show dAppend s cs = if (dStep s).dead then dStep s else { dStep s with b := (dStep s).b ++ cs } from rfl)
  unfold dErr
  generalize dAppend s cs = s2 at *
  have HBN := Lib.hid (show (dStep s).b.length ≤ N from hbN)
  generalize dStep s = t at *
  clear h hr hb2 hbN
  rcases hd : t.dead with _ | _
  · have HS2 := HSY.out
    rw [hd, if_neg (by simp)] at HS2
    have HSE := Lib.hid HS2
    clear HS2
    rw [if_neg (by simp)]
    rw [hd] at K
    go_enter Try.func21, Try.ntmps21
    go_wp2_with fail
    refine K.out.mono ?_
    rintro e w1 ⟨rfl, ⟨v, h1, h2, h3, h4⟩, hm1⟩
    have c0 : w1.cell? ⟨p, 0, none⟩ = some v := (h1.1.cell 0).trans rfl
    have HR1 := Lib.hid (HR.out.mod hm1 hs)
    have H1 := Lib.hid h1
    have H3 := Lib.hid h3
    have H4 := Lib.hid h4
    have HM1 := Lib.hid hm1
    have z1 := hm1.size
    clear h1 h3 h4 hm1
    go_wp2_with (at_builtin; go_must (refine wpList_appB rfl (.tmp 12) (.tmp 13) rfl rfl H1.out.2.1 rfl HR1.out.1 (by have := H4.out; have := HR1.out.2.2; unfold Room; omega) ?_))
    intro ao cap w2 ⟨q1, q2, q3⟩
    have hp : w1.heap.size ≤ w2.heap.size := q2.size
    have hlt := H1.out.1.lt
    have hc := H1.out.1.mod q2 (by intro e; exact H1.out.2.2.1 p e.symm rfl)
    have c0' : w2.cell? ⟨p, 0, none⟩ = some v := (hc.cell 0).trans rfl
    have f0' := hc.frozen 0
    have HC := Lib.hid hc
    have Q1 := Lib.hid q1
    have Q2 := Lib.hid q2
    have Q3 := Lib.hid q3
    clear q1 q2 q3 hc
    go_wp2
    go_ret
    have hne : ∀ g, (Value.slice ao (t.b.length + cs.length) cap).ownBlock = some g → g ≠ p := by
      intro g hg e
      rcases Q3.out with h | ⟨k, h, hk⟩
      · rw [h] at hg; exact H1.out.2.2.1 g hg e
      · rw [h] at hg; simp at hg; omega
    refine ⟨rfl, ⟨.slice ao (t.b.length + cs.length) cap, ?_, .inl h2, ?_, ?_⟩, HM1.out.trans (((Q2.out.mono (S' := R) (fun k _ hk => H3.out k hk.symm)).setCell (fun _ => h2) _)) (fun _ _ h => h)⟩
    · rw [HSE.out]
      have hl := H1.out.2.2.2.1
      refine ⟨HC.out.set 0 _, OwnB.mod Q1.out (S := fun k => k = p) ((Mod.refl (fun k => k = p) _).setCell (fun _ => rfl) _) hne, hne, by simp; omega, H1.out.2.2.2.2⟩
    · intro g hg
      rcases Q3.out with h | ⟨k, h, hk⟩
      · rw [h] at hg; exact .inl (H3.out g hg)
      · rw [h] at hg
        obtain rfl : k = g := by simpa using hg
        have := Own.lt Q1.out h
        unfold New
        exact .inr ⟨by omega, by simpa using this⟩
    · rw [HSE.out]
      have := HR.out.2.2
      have := HBN.out
      simp; omega
  · have HS2 := HSY.out
    rw [hd, if_pos rfl] at HS2
    have HSE := Lib.hid HS2
    clear HS2
    rw [if_pos rfl]
    rw [hd] at K
    go_enter Try.func21, Try.ntmps21
    go_wp2_with fail
    refine K.out.mono ?_
    rintro e w1 ⟨rfl, hD, hm1⟩
    have HD := Lib.hid hD
    have HM1 := Lib.hid hm1
    clear hD hm1
    go_wp2
    go_ret
    rw [HSE.out]
    exact ⟨rfl, HD.out.widen (fun k h => .inl h) (by omega), HM1.out⟩

theorem Sync_R (h : DkR R N w p s) :
    Calls Try.prog 37 #[.pointer (some ⟨p, 0, none⟩)] w fun e w' => e = .returned (.int .i64 (dErr s)) ∧ DkR R N w' p (dSync s) ∧ Mod R w w' := by
  have K := Lib.hid (step_R h)
  have HSY := Lib.hid (show dSync s = if (dStep s).dead then dStep s else { dStep s with sy := (dStep s).b.length } from rfl)
  unfold dErr
  generalize dSync s = s2 at *
  generalize dStep s = t at *
  clear h
  rcases hd : t.dead with _ | _
  · have HS2 := HSY.out
    rw [hd, if_neg (by simp)] at HS2
    have HSE := Lib.hid HS2
    clear HS2
    rw [if_neg (by simp)]
    rw [hd] at K
    go_enter Try.func37, Try.ntmps37
    go_wp2_with fail
    refine K.out.mono ?_
    rintro e w1 ⟨rfl, ⟨v, h1, h2, h3, h4⟩, hm1⟩
    have c0 : w1.cell? ⟨p, 0, none⟩ = some v := (h1.1.cell 0).trans rfl
    have c1 : w1.cell? ⟨p, 1, none⟩ = some (.int .i64 t.sy) := (h1.1.cell 1).trans rfl
    have f1 := h1.1.frozen 1
    obtain ⟨ao, cap, rfl, _, _⟩ := h1.shape
    have H1 := Lib.hid h1
    have H3 := Lib.hid h3
    have H4 := Lib.hid h4
    have HM1 := Lib.hid hm1
    clear h1 h3 h4 hm1
    go_wp2
    go_ret
    refine ⟨rfl, ⟨.slice ao t.b.length cap, ?_, h2, H3.out, by rw [HSE.out]; exact H4.out⟩, HM1.out.setCell (fun _ => h2) _⟩
    rw [HSE.out]
    exact H1.out.turn (H1.out.1.set 1 _) ((Mod.refl (fun k => k = p) _).setCell (fun _ => rfl) _) rfl (Nat.le_refl _) H1.out.2.2.2.2
  · have HS2 := HSY.out
    rw [hd, if_pos rfl] at HS2
    have HSE := Lib.hid HS2
    clear HS2
    rw [if_pos rfl]
    rw [hd] at K
    go_enter Try.func37, Try.ntmps37
    go_wp2_with fail
    refine K.out.mono ?_
    rintro e w1 ⟨rfl, hD, hm1⟩
    have HD := Lib.hid hD
    have HM1 := Lib.hid hm1
    clear hD hm1
    go_wp2
    go_ret
    rw [HSE.out]
    exact ⟨rfl, HD.out, HM1.out⟩
end
end Go.Proofs.Ythojipjleajajaa

/- disk.Disk: what is read of it; Fuse, Crash. -/
namespace Go.Proofs.Ythojipjleajajaa
open Go Go.RowKit Go.Gv

section
variable {R R' : Nat → Prop} {N M p : Nat} {s : DS} {w : World}
theorem Read_R (h : DkR R N w p s) (hN : N ≤ 1000000) :
    Calls Try.prog 17 #[.pointer (some ⟨p, 0, none⟩)] w fun e w' => ∃ v', e = .returned v' ∧ OwR (New w w') N w' v' s.b ∧ Mod (fun _ => False) w w' := by
  obtain ⟨v, h1, h2, h3, h4⟩ := h
  have c0 : w.cell? ⟨p, 0, none⟩ = some v := (h1.1.cell 0).trans rfl
  have HB := Lib.hid h1.2.1.rd
  have H4 := Lib.hid h4
  have Hroom := Lib.hid (show ([] : List Int).length + s.b.length ≤ Room by simp; unfold Room; omega)
  clear h1 h2 h3 h4
  go_enter Try.func17, Try.ntmps17
  go_wp2_with (at_builtin; go_must (refine wpList_appB rfl (.const (.slice none 0 0)) (.tmp 6) rfl rfl (OwnB.nil _) (new := s.b) rfl HB.out Hroom.out ?_))
  intro ao cap w1 happ
  have HA := Lib.hid happ
  clear happ
  go_wp2
  go_ret
  obtain ⟨h1, h2, h3⟩ := HA.out
  simp only [List.length_nil, Nat.zero_add] at *
  have hfr : ∀ g, (Value.slice ao s.b.length cap).ownBlock = some g → w.heap.size ≤ g := by
    intro g hg
    rcases h3 with h3 | ⟨k, h3, hk⟩
    · rw [h3] at hg; cases hg
    · rw [h3] at hg; simp at hg; omega
  exact ⟨_, rfl, OwR_of N h1 hfr H4.out, h2.mono (fun k _ hk => by simp [Value.ownBlock] at hk)⟩
theorem Len_R (h : DkR R N w p s) : Calls Try.prog 20 #[.pointer (some ⟨p, 0, none⟩)] w fun e w' => e = .returned (.int .i64 s.b.length) ∧ w = w' := by
  obtain ⟨v, h1, h2, h3, h4⟩ := h
  have c0 : w.cell? ⟨p, 0, none⟩ = some v := (h1.1.cell 0).trans rfl
  obtain ⟨ao, cap, rfl, _, _⟩ := h1.shape
  clear h1
  go_enter Try.func20, Try.ntmps20
  go_wp2
  go_ret
  exact ⟨rfl, rfl⟩
theorem Synced_R (h : DkR R N w p s) : Calls Try.prog 19 #[.pointer (some ⟨p, 0, none⟩)] w fun e w' => e = .returned (.int .i64 s.sy) ∧ w = w' := by
  obtain ⟨v, h1, h2, h3, h4⟩ := h
  have c1 : w.cell? ⟨p, 1, none⟩ = some (.int .i64 s.sy) := (h1.1.cell 1).trans rfl
  clear h1
  go_enter Try.func19, Try.ntmps19
  go_wp2
  go_ret
  exact ⟨rfl, rfl⟩
theorem Dead_R (h : DkR R N w p s) : Calls Try.prog 31 #[.pointer (some ⟨p, 0, none⟩)] w fun e w' => e = .returned (.bool s.dead) ∧ w = w' := by
  obtain ⟨v, h1, h2, h3, h4⟩ := h
  have c1 : w.cell? ⟨p, 4, none⟩ = some (.bool s.dead) := (h1.1.cell 4).trans rfl
  clear h1
  go_enter Try.func31, Try.ntmps31
  go_wp2
  go_ret
  exact ⟨rfl, rfl⟩
theorem Fuse_R {n : Int} (h : DkR R N w p s) (hn : -9223372036854775808 ≤ n ∧ n ≤ 9223372036854775807) :
    Calls Try.prog 25 #[.pointer (some ⟨p, 0, none⟩), .int .i64 n] w fun e w' => e = .returned (.tuple #[]) ∧ DkR R N w' p (dFuse s n.toNat) ∧ Mod R w w' := by
  obtain ⟨v, h1, h2, h3, h4⟩ := h
  have c2 : w.cell? ⟨p, 2, none⟩ = some (.int .i64 s.fu) := (h1.1.cell 2).trans rfl
  have c3 : w.cell? ⟨p, 3, none⟩ = some (.bool s.lit) := (h1.1.cell 3).trans rfl
  have f2 := h1.1.frozen 2
  have f3 := h1.1.frozen 3
  have H1 := Lib.hid h1
  have H3 := Lib.hid h3
  have H4 := Lib.hid h4
  clear h1 h3 h4
  by_cases hp : 0 < n
  · have HT := Lib.hid (show ((n.toNat : Nat) : Int) = n by omega)
    go_enter Try.func25, Try.ntmps25
    go_wp2
    go_end0
    refine ⟨rfl, ⟨v, H1.out.turn (by have q := (H1.out.1.set 3 (.bool true)).set 2 (.int .i64 n); show Cs _ p #[v, .int .i64 s.sy, .int .i64 ((n.toNat : Nat) : Int), .bool true, .bool s.dead] _; rw [HT.out]; exact q) (((Mod.refl (fun k => k = p) _).setCell (fun _ => rfl) _).setCell (fun _ => rfl) _) rfl H1.out.2.2.2.1 (by show ((n.toNat : Nat) : Int) ≤ _; rw [HT.out]; exact hn.2), h2, H3.out, H4.out⟩, ((Mod.refl R _).setCell (fun _ => h2) _).setCell (fun _ => h2) _⟩
  · have HT := Lib.hid (show n.toNat = 0 by omega)
    have hn0 : n ≤ 0 := by omega
    go_enter Try.func25, Try.ntmps25
    go_wp2
    go_end0
    rw [HT.out]
    refine ⟨rfl, ⟨v, H1.out.turn ((H1.out.1.set 3 (.bool true)).set 2 (.int .i64 0)) (((Mod.refl (fun k => k = p) _).setCell (fun _ => rfl) _).setCell (fun _ => rfl) _) rfl H1.out.2.2.2.1 (by simp [dFuse]), h2, H3.out, H4.out⟩, ((Mod.refl R _).setCell (fun _ => h2) _).setCell (fun _ => h2) _⟩
end
end Go.Proofs.Ythojipjleajajaa

/- disk.Disk: Crash, Cut. -/
namespace Go.Proofs.Ythojipjleajajaa
open Go Go.RowKit Go.Gv

theorem Cs_drew {w : World} {g : Nat} {c : Array Value} {e : TypeId} (h : Cs w g c e) : Cs w.drew g c e := h
section
variable {R R' : Nat → Prop} {N M p : Nat} {s : DS} {w : World}
theorem Crash_R {keep : Int} (h : DkR R N w p s) (hN : N ≤ 1000000) (hk : -9223372036854775808 ≤ keep ∧ keep ≤ 9223372036854775807) :
    Calls Try.prog 22 #[.pointer (some ⟨p, 0, none⟩), .int .i64 keep] w fun e w' => e = .returned (.tuple #[]) ∧ DkR R N w' p (dCrash s keep.toNat) ∧ Mod R w w' := by
  obtain ⟨v, h1, h2, h3, h4⟩ := h
  have hsy := h1.2.2.2.1
  have hfu := h1.2.2.2.2
  obtain ⟨ao, cap, rfl, hlc, hcm⟩ := h1.shape
  rw [maxLen_val] at hcm
  have c0 : w.cell? ⟨p, 0, none⟩ = some (.slice ao s.b.length cap) := (h1.1.cell 0).trans rfl
  have c1 : w.cell? ⟨p, 1, none⟩ = some (.int .i64 s.sy) := (h1.1.cell 1).trans rfl
  have c2 : w.cell? ⟨p, 2, none⟩ = some (.int .i64 s.fu) := (h1.1.cell 2).trans rfl
  have c3 : w.cell? ⟨p, 3, none⟩ = some (.bool s.lit) := (h1.1.cell 3).trans rfl
  have c4 : w.cell? ⟨p, 4, none⟩ = some (.bool s.dead) := (h1.1.cell 4).trans rfl
  have f0 := h1.1.frozen 0
  have f1 := h1.1.frozen 1
  have f2 := h1.1.frozen 2
  have f3 := h1.1.frozen 3
  have f4 := h1.1.frozen 4
  have H1 := Lib.hid h1
  have H3 := Lib.hid h3
  have hlN : s.b.length ≤ 1000000 := by omega
  have H4 := Lib.hid h4
  clear h1 h3 h4
  obtain ⟨d, hd⟩ : ∃ d, d = s.b.length - s.sy := ⟨_, rfl⟩
  have hw1 : IntKind.i64.wrap ((s.b.length : Int) - s.sy) = d := by rw [IntWalk.i64_in _ (by omega)]; omega
  have fin : ∀ (n : Nat), n ≤ s.b.length → n = s.sy + min keep.toNat (s.b.length - s.sy) → ∀ w', Cs w' p #[.slice ao n n, .int .i64 n, .int .i64 0, .bool false, .bool false] 60 → Mod (fun k => k = p) w w' → DkR R N w' p (dCrash s keep.toNat) ∧ Mod R w w' := by
    intro n hn e w' hc hm
    have e2 : dCrash s keep.toNat = ⟨s.b.take n, n, 0, false, false⟩ := by unfold dCrash; rw [← e]
    rw [e2]
    have hb := OwnB.cut3 (OwnB.mod H1.out.2.1 hm H1.out.2.2.1) n hn
    have hown : ∀ g, (Value.slice ao n n).ownBlock = some g → (Value.slice ao s.b.length cap).ownBlock = some g := by intro g hg; cases ao <;> simp_all [Value.ownBlock]
    refine ⟨⟨.slice ao n n, ⟨hc, hb, fun g hg => H1.out.2.2.1 g (hown g hg), by simp; omega, by simp⟩, h2, fun g hg => H3.out g (hown g hg), by have := H4.out; simp; omega⟩, hm.mono (fun k _ hk => by subst hk; exact h2)⟩
  have FIN := Lib.hid fin
  clear fin
  have hdi : (0 : Int) ≤ d := by omega
  obtain ⟨n, hn⟩ : ∃ n, n = s.sy + min keep.toNat (s.b.length - s.sy) := ⟨_, rfl⟩
  have hx : (s.sy : Int) + (if (d : Int) < (if 0 < keep then keep else 0) then (d : Int) else if 0 < keep then keep else 0) = n := by repeat' split <;> omega
  have hnl : n ≤ s.b.length := by omega
  have hnc : (n : Int) ≤ cap := by omega
  have hn0 : (0 : Int) ≤ n := by omega
  have HNE := Lib.hid hn
  clear hn hd
  have hw2 : IntKind.i64.wrap ((s.sy : Int) + (if (d : Int) < (if 0 < keep then keep else 0) then (d : Int) else if 0 < keep then keep else 0)) = n := by rw [hx]; exact IntWalk.i64_in _ (by omega)
  clear hx
  go_enter Try.func22, Try.ntmps22
  go_wp2_with fail
  go_region_held3 (fun w' => w'.cell? ⟨p, 0, none⟩ = some (.slice ao s.b.length cap) ∧ w'.cell? ⟨p, 1, none⟩ = some (.int .i64 s.sy)) (go_keep)
    (fail)
  clear hw1 hw2
  go_wp2
  all_goals
    go_end0
    refine ⟨rfl, FIN.out n hnl HNE.out _ ?_ ?_⟩
    · refine Cs_drew ?_
      exact ((((H1.out.1.set 0 (.slice ao n n)).set 1 (.int .i64 n)).set 4 (.bool false)).set 3 (.bool false)).set 2 (.int .i64 0)
    · have m0 := Mod.refl (fun k => k = p) w
      have m1 := m0.setCell (p := ⟨p, 0, none⟩) (fun _ => rfl) (.slice ao n n)
      have m2 := m1.setCell (p := ⟨p, 1, none⟩) (fun _ => rfl) (.int .i64 n)
      have m3 := m2.setCell (p := ⟨p, 4, none⟩) (fun _ => rfl) (.bool false)
      have m4 := m3.setCell (p := ⟨p, 3, none⟩) (fun _ => rfl) (.bool false)
      exact (m4.setCell (p := ⟨p, 2, none⟩) (fun _ => rfl) (.int .i64 0)).drew
end
end Go.Proofs.Ythojipjleajajaa

/- disk.Disk: Cut, where the disk does not end. -/
namespace Go.Proofs.Ythojipjleajajaa
open Go Go.RowKit Go.Gv

section
variable {R R' : Nat → Prop} {N M p : Nat} {s : DS} {w : World}
set_option maxHeartbeats 2000000 in
theorem Cut_ok {n : Nat} (h : DkR R N w p s) (hd : s.dead = false) (hl : s.lit = false) (hn : n ≤ s.b.length) (hN : N ≤ 1000000) :
    Calls Try.prog 36 #[.pointer (some ⟨p, 0, none⟩), .int .i64 n] w fun e w' => e = .returned (.int .i64 0) ∧ DkR R N w' p (dCut s n) ∧ Mod R w w' := by
  have K := Lib.hid (step_R h)
  have hst : dStep s = s := by
    obtain ⟨b, sy, fu, lit, dead⟩ := s
    simp only at hd hl
    subst hd hl
    simp [dStep, dEnds]
  have hcut : dCut s n = { s with b := s.b.take n, sy := min s.sy n } := by unfold dCut; rw [hst, if_neg (by rw [hd]; simp)]
  rw [hcut]
  rw [hst, hd] at K
  obtain ⟨v, h1, h2, h3, h4⟩ := h
  obtain ⟨ao, cap, rfl, hlc, hcm⟩ := h1.shape
  have c0 : w.cell? ⟨p, 0, none⟩ = some (.slice ao s.b.length cap) := (h1.1.cell 0).trans rfl
  have c3 : w.cell? ⟨p, 3, none⟩ = some (.bool s.lit) := (h1.1.cell 3).trans rfl
  have c4 : w.cell? ⟨p, 4, none⟩ = some (.bool s.dead) := (h1.1.cell 4).trans rfl
  rw [hd] at c4
  rw [hl] at c3
  have HD := Lib.hid hd
  have H4 := Lib.hid h4
  clear h1 h3 hst hcut hd hl hlc hcm
  have hni : (n : Int) ≤ s.b.length := by omega
  go_enter Try.func36, Try.ntmps36
  go_wp2_with fail
  refine K.out.mono ?_
  rintro e w1 ⟨rfl, ⟨v, h1, h2', h3, h4'⟩, hm1⟩
  obtain ⟨ao1, cap1, rfl, hlc1, hcm1⟩ := h1.shape
  rw [maxLen_val] at hcm1
  clear c0 c3 c4
  have c0 : w1.cell? ⟨p, 0, none⟩ = some (.slice ao1 s.b.length cap1) := (h1.1.cell 0).trans rfl
  have c1 : w1.cell? ⟨p, 1, none⟩ = some (.int .i64 s.sy) := (h1.1.cell 1).trans rfl
  have f0 := h1.1.frozen 0
  have f1 := h1.1.frozen 1
  have H1 := Lib.hid h1
  have H3 := Lib.hid h3
  have HM1 := Lib.hid hm1
  clear h1 h3 hm1 h4' h4
  have hnc : (n : Int) ≤ cap1 := by omega
  have fin : ∀ (k : Nat), k = min s.sy n → ∀ w', Cs w' p #[.slice ao1 n n, .int .i64 k, .int .i64 s.fu, .bool s.lit, .bool s.dead] 60 → Mod (fun k => k = p) w1 w' → DkR R N w' p { s with b := s.b.take n, sy := min s.sy n } ∧ Mod R w w' := by
    intro k e w' hc hm
    have hb := OwnB.cut3 (OwnB.mod H1.out.2.1 hm H1.out.2.2.1) n hn
    have hown : ∀ g, (Value.slice ao1 n n).ownBlock = some g → (Value.slice ao1 s.b.length cap1).ownBlock = some g := by intro g hg; cases ao1 <;> simp_all [Value.ownBlock]
    refine ⟨⟨.slice ao1 n n, ⟨by rw [← e]; exact hc, hb, fun g hg => H1.out.2.2.1 g (hown g hg), by simp; omega, H1.out.2.2.2.2⟩, h2, fun g hg => H3.out g (hown g hg), by have := H4.out; simp; omega⟩, HM1.out.trans (hm.mono (S' := R) (fun k _ hk => by subst hk; exact h2)) (fun _ _ h => h)⟩
  have FIN := Lib.hid fin
  clear fin
  by_cases hmin : n < s.sy
  · have hmi : (n : Int) < s.sy := by omega
    go_wp2_with fail
    go_region_law (fail)
    all_goals
      go_wp2
      go_ret
      refine ⟨rfl, FIN.out n (by omega) _ ?_ ?_⟩
      · first
          | exact Cs_drew ((H1.out.1.set 0 (.slice ao1 n n)).set 1 (.int .i64 n))
          | exact (H1.out.1.set 0 (.slice ao1 n n)).set 1 (.int .i64 n)
          | exact ((Cs_drew H1.out.1).set 0 (.slice ao1 n n)).set 1 (.int .i64 n)
      · have m0 := Mod.refl (fun k => k = p) w1
        first
          | exact ((m0.setCell (p := ⟨p, 0, none⟩) (fun _ => rfl) (.slice ao1 n n)).setCell (p := ⟨p, 1, none⟩) (fun _ => rfl) (.int .i64 n)).drew
          | exact ((m0.drew.setCell (p := ⟨p, 0, none⟩) (fun _ => rfl) (.slice ao1 n n)).setCell (p := ⟨p, 1, none⟩) (fun _ => rfl) (.int .i64 n))
  · have hmi : ¬ (n : Int) < s.sy := by omega
    go_wp2_with fail
    go_region_law (fail)
    all_goals
      go_wp2
      go_ret
      refine ⟨rfl, FIN.out s.sy (by omega) _ ?_ ?_⟩
      · first
          | exact Cs_drew ((H1.out.1.set 0 (.slice ao1 n n)).set 1 (.int .i64 s.sy))
          | exact (H1.out.1.set 0 (.slice ao1 n n)).set 1 (.int .i64 s.sy)
          | exact ((Cs_drew H1.out.1).set 0 (.slice ao1 n n)).set 1 (.int .i64 s.sy)
      · have m0 := Mod.refl (fun k => k = p) w1
        first
          | exact ((m0.setCell (p := ⟨p, 0, none⟩) (fun _ => rfl) (.slice ao1 n n)).setCell (p := ⟨p, 1, none⟩) (fun _ => rfl) (.int .i64 s.sy)).drew
          | exact ((m0.drew.setCell (p := ⟨p, 0, none⟩) (fun _ => rfl) (.slice ao1 n n)).setCell (p := ⟨p, 1, none⟩) (fun _ => rfl) (.int .i64 s.sy))
end
end Go.Proofs.Ythojipjleajajaa

/- gavellaw01.Act: a call, as an argument holds it. -/
namespace Go.Proofs.Ythojipjleajajaa
open Go Go.RowKit Go.Gv Go.ChangeShapes Go.WideShapes Go.ChangeAt Go.Deep

structure Act01 where
 Do : Int
 N : Int
 U : Nat
 VB : Value
 B : List Int
 H : List Int
instance : Inhabited Act01 := ⟨⟨0, 0, 0, .slice none 0 0, [], List.replicate 32 0⟩⟩
def Act01.tail (a : Act01) : List Value := (List.range 32).map fun i => bv (a.H.getD i 0)
def Act01.cells (a : Act01) : List Value := .int .i64 a.Do :: .int .i64 a.N :: .int .u64 a.U :: a.VB :: a.tail
structure Act01.Ok (W : World) (a : Act01) : Prop where
 d : -9223372036854775808 ≤ a.Do ∧ a.Do ≤ 9223372036854775807
 n : -9223372036854775808 ≤ a.N ∧ a.N ≤ 9223372036854775807
 u : a.U < U64
 b : RdR (fun k => k < W.heap.size) a.B.length W a.VB a.B
 h : a.H.length = 32
 hb : Bytes a.H
theorem Act01.len (a : Act01) : a.cells.length = 36 := by simp [Act01.cells, Act01.tail]
end Go.Proofs.Ythojipjleajajaa

/- Local copies of an Act; lent texts with their blocks. -/
namespace Go.Proofs.Ythojipjleajajaa
open Go Go.RowKit Go.Gv

section
variable {α : Type} {s : Nat} {cells : α → List Value} {R R' S : Nat → Prop} {w w' : World} {v : Value} {l : List α}
theorem RdE.shape (h : RdE s cells R w v l) : ∃ ao cap, v = .slice ao l.length cap ∧ l.length ≤ maxLen := by
  rcases h with ⟨rfl, ao, cap, rfl⟩ | ⟨g, o, cap, _, rfl, _, h1, h2, _⟩
  · exact ⟨ao, cap, rfl, by simp⟩
  · exact ⟨_, cap, rfl, by omega⟩
theorem RdE.at {ao : Option Addr} {n cap : Nat} (h : RdE s cells R w (.slice ao n cap) l) {i : Nat} (hi : i < l.length) :
    ∃ g o, ao = some ⟨g, o, none⟩ ∧ ∀ j u, (cells l[i])[j]? = some u → w.cell? ⟨g, o + i * s + j, none⟩ = some u := by
  rcases h with ⟨rfl, _⟩ | ⟨g, o, cap', _, e, _, _, _, h6⟩
  · exact absurd hi (by simp)
  · simp only [Value.slice.injEq] at e
    exact ⟨g, o, e.1, fun j u => h6 i hi j u⟩
theorem RdE.widen (h : RdE s cells R w v l) (hs : ∀ k, R k → R' k) : RdE s cells R' w v l := by
  rcases h with h | ⟨g, o, cap, h1, h2⟩
  · exact .inl h
  · exact .inr ⟨g, o, cap, hs g h1, h2⟩
end

section
variable {R R' S : Nat → Prop} {w w' : World} {g : Nat} {a : Act01}
end
theorem Act01.one {W : World} {a : Act01} (h : a.Ok W) : ∀ u ∈ a.cells, u.oneCell' = true := by
  intro u hu
  obtain ⟨ao, cap, e⟩ := h.b.shape
  simp only [Act01.cells, Act01.tail, List.mem_cons, List.mem_map] at hu
  rcases hu with rfl | rfl | rfl | rfl | ⟨i, _, rfl⟩
  · rfl
  · rfl
  · rfl
  · rw [e]; rfl
  · rfl
/-- a lent text with its block -/
def LentR (R : Nat → Prop) (N : Nat) (w : World) (v : Value) (bs : List Int) : Prop := Lent w v bs ∧ (∀ g, v.ownBlock = some g → R g) ∧ Bytes bs ∧ bs.length ≤ N ∧ N ≤ 1000000
section
variable {R R' S : Nat → Prop} {N M : Nat} {w w' : World} {v : Value} {bs : List Int}
theorem LentR.mod (h : LentR R N w v bs) (hm : Mod S w w') (hs : ∀ k, R k → S k → False) : LentR R N w' v bs := by
  obtain ⟨⟨g, rfl, hc⟩, h2, h3⟩ := h
  exact ⟨⟨g, rfl, hc.mod hm (hs g (h2 g rfl))⟩, h2, h3⟩
theorem LentR.widen (h : LentR R N w v bs) (hs : ∀ k, R k → R' k) (_hM : N ≤ N) : LentR R' N w v bs := ⟨h.1, fun g hg => hs g (h.2.1 g hg), h.2.2⟩
theorem LentR.rd (h : LentR R N w v bs) : RdR R N w v bs := by
  obtain ⟨⟨g, rfl, hc⟩, h2, h3, h4, h5⟩ := h
  refine ⟨⟨h3, ?_⟩, fun _ => h2, h4⟩
  refine Rd.mk (by omega) (by rw [maxLen_val]; omega) (by simp) fun j u hu => ?_
  rw [Nat.zero_add, hc.cell]
  have hj : j < bs.length := by have := (List.getElem?_eq_some_iff.1 hu).1; simpa using this
  simp only [List.getElem?_map, List.getElem?_toArray] at hu ⊢
  rw [← hu]
  congr 1
  unfold lendc
  rw [List.getElem?_append_left hj]
end
end Go.Proofs.Ythojipjleajajaa

/- What calls write, what is read of it, what is read of a strict beginning of it. -/
namespace Go.Proofs.Ythojipjleajajaa
open Go Go.RowKit Go.Gv

theorem RdR.upto {R : Nat → Prop} {N : Nat} {w : World} {ao : Option Addr} {n cap : Nat} {bs : List Int} (h : RdR R N w (.slice ao n cap) bs) (k : Nat) (hk : k ≤ bs.length) : RdR R N w (.slice ao k cap) (bs.take k) := by
 refine ⟨h.1.upto k hk, fun h0 g hg => h.2.1 (by simp at h0; omega) g (by cases ao <;> simp_all [Value.ownBlock]), by have := h.2.2; simp; omega⟩

/-- the state of a reader that has less than all of `full` ahead -/
def SP (s : RSt) (full : List Int) : Prop := s = none ∨ ∃ t, s = some t ∧ t <+: full ∧ t.length < full.length

theorem SP.nil {s : RSt} (h : SP s []) : s = none := by
 rcases h with h | ⟨t, _, _, h⟩
 ·exact h
 ·simp at h
theorem SP.cut {t a rest : List Int} (h1 : t <+: a ++ rest) (h2 : t.length < (a ++ rest).length) : (t <+: a ∧ t.length < a.length) ∨ ∃ t', t = a ++ t' ∧ SP (some t') rest := by
 rcases Nat.lt_or_ge t.length a.length with h | h
 ·exact .inl ⟨List.prefix_of_prefix_length_le h1 (List.prefix_append a rest) (by omega), h⟩
 ·obtain ⟨t', rfl⟩ := List.prefix_of_prefix_length_le (List.prefix_append a rest) h1 h
  refine .inr ⟨t', rfl, .inr ⟨t', rfl, (List.prefix_append_right_inj a).1 h1, by simpa using h2⟩⟩

theorem dec_pre : ∀ (m i acc : Nat) (t : List Int), t <+: encN m → t.length < (encN m).length → decGo i acc t = none := by
 intro m
 induction m using Nat.strongRecOn with
 | _ m ih =>
  intro i acc t h1 h2
  by_cases hm : m < 128
  ·rw [encN_lt hm] at h2
   obtain rfl : t = [] := List.eq_nil_of_length_eq_zero (by simpa using h2)
   rfl
  ·rw [encN_ge (by omega)] at h1 h2
   cases t with
   | nil => rfl
   | cons c t =>
    obtain ⟨rfl, h1'⟩ := List.cons_prefix_cons.1 h1
    simp only [decGo]
    split
    ·rfl
    ·rw [if_neg (by omega)]
     exact ih (m / 128) (by omega) _ _ t h1' (by simpa using h2)

theorem SP.num {s : RSt} {n : Nat} {rest : List Int} (hn : n < U64) (h : SP s (encN n ++ rest)) : SP (rNum s).2 rest ∧ ((rNum s).2.isSome → (rNum s).1 = n) := by
 rcases h with rfl | ⟨t, rfl, h1, h2⟩
 ·exact ⟨.inl rfl, by simp⟩
 ·rcases SP.cut h1 h2 with ⟨h3, h4⟩ | ⟨t', rfl, h5⟩
  ·have := dec_pre n 0 0 t h3 h4
   simp [rNum, this, SP]
  ·rw [rNum_enc hn]
   exact ⟨h5, fun _ => rfl⟩
theorem SP.int {s : RSt} {n : Nat} {rest : List Int} (most : Int) (hn : n < U64) (h : SP s (encN n ++ rest)) : SP (rInt most s).2 rest ∧ ((rInt most s).2.isSome → (rInt most s).1 = n) := by
 have := h.num hn
 unfold rInt
 split
 ·exact ⟨.inl rfl, by simp⟩
 ·exact this
theorem SP.take {s : RSt} {a rest : List Int} (h : SP s (a ++ rest)) : SP (rTake a.length s).2 rest := by
 rcases h with rfl | ⟨t, rfl, h1, h2⟩
 ·exact .inl rfl
 ·rcases SP.cut h1 h2 with ⟨h3, h4⟩ | ⟨t', rfl, h5⟩
  ·simp [rTake, h4, SP]
  ·rw [rTake_app rfl]; exact h5
theorem SP.row {s : RSt} {bs rest : List Int} (most : Int) (hb : bs.length < U64) (h : SP s (encN bs.length ++ bs ++ rest)) : SP (rRow most s).2 rest := by
 rw [List.append_assoc] at h
 have h1 := h.int most hb
 unfold rRow
 cases hs : (rInt most s).2 with
 | none => exact .inl rfl
 | some u =>
  rw [h1.2 (by simp [hs]), ← hs]
  exact h1.1.take
theorem rRow_encA {bs : List Int} (hb : bs.length < U64) (most : Int) (rest : List Int) : rRow most (some (encN bs.length ++ bs ++ rest)) = if most < bs.length then ([], none) else (bs, some rest) := by
 rw [List.append_assoc, rRow_enc hb]

section
variable {nm : Int} {row : Nat} {a : Act01}
end
theorem within_nat (v n : Int) (hn : 1 ≤ n) : ∃ k : Nat, within v n = k ∧ (k : Int) < n := by
 have := within_range v n hn
 exact ⟨(within v n).toNat, by omega, by omega⟩
end Go.Proofs.Ythojipjleajajaa

/- What a log holds, in plain words: rows of bytes, one behind the other, and what of any bytes is whole. No program is walked here. -/
namespace Go.Proofs.Ythojipjleajajaa
open Go Go.RowKit Go.Gv

def encR (b : List Int) : List Int := encN b.length ++ b
def rowsE (rs : List (List Int)) : List Int := rs.flatMap encR
@[simp] theorem rowsE_nil : rowsE [] = [] := rfl
theorem rowsE_snoc (rs : List (List Int)) (b : List Int) : rowsE (rs ++ [b]) = rowsE rs ++ encR b := by simp [rowsE]
theorem rowsE_cons (rs : List (List Int)) (b : List Int) : rowsE (b :: rs) = encR b ++ rowsE rs := rfl
theorem encR_pos (b : List Int) : 1 ≤ (encR b).length := by have := encN_pos b.length; unfold encR; rw [List.length_append]; omega
theorem encR_len {b : List Int} (h : b.length ≤ 1000000) : (encR b).length ≤ b.length + 10 := by
 have := (encN_len10 (n := b.length) (by unfold U64; omega)).2
 unfold encR; rw [List.length_append]; omega
/-- nothing whole begins here -/
def Stuck (l : List Int) : Prop := l = [] ∨ (rRow 65536 (some l)).2 = none
def Fit (rs : List (List Int)) : Prop := ∀ b ∈ rs, b.length ≤ 65536
def Parse (bs : List Int) (rs : List (List Int)) : Prop := Fit rs ∧ ∃ rest, bs = rowsE rs ++ rest ∧ Stuck rest
theorem Fit.nil : Fit [] := fun b h => by cases h
theorem Fit.snoc {rs : List (List Int)} {b : List Int} (h : Fit rs) (hb : b.length ≤ 65536) : Fit (rs ++ [b]) := by
 intro x hx
 rcases List.mem_append.1 hx with h1 | h1
 ·exact h x h1
 ·simp at h1; subst h1; exact hb
theorem rRow_encR {b : List Int} (hb : b.length ≤ 65536) (rest : List Int) : rRow 65536 (some (encR b ++ rest)) = (b, some rest) := by
 unfold encR
 rw [rRow_encA (by unfold U64; omega), if_neg (by omega)]
theorem Parse.whole {rs : List (List Int)} (h : Fit rs) : Parse (rowsE rs) rs := ⟨h, [], by simp, .inl rfl⟩
theorem Parse.pre {bs : List Int} {rs : List (List Int)} (h : Parse bs rs) : rowsE rs = bs.take (rowsE rs).length ∧ (rowsE rs).length ≤ bs.length := by
 obtain ⟨_, rest, e, _⟩ := h
 subst e
 exact ⟨by rw [List.take_append_of_le_length (Nat.le_refl _), List.take_length], by simp⟩
/-! ### what is read was written so -/
theorem dec_canW : ∀ (l : List Int) (i acc n : Nat) (r : List Int), Bytes l → decGo i acc l = some (n, r) → ∃ m, l = encN m ++ r ∧ n = acc + m * 2 ^ (7 * i) ∧ (0 < i → 1 ≤ m) := by
 intro l
 induction l with
 | nil => intro i acc n r _ h; cases h
 | cons c cs ih =>
  intro i acc n r hb h
  have hc := hb c (List.mem_cons_self ..)
  rw [decGo] at h
  by_cases h1 : i = 9 ∧ 1 < c
  ·rw [if_pos h1] at h; cases h
  ·rw [if_neg h1] at h
   by_cases h2 : c < 128
   ·rw [if_pos h2] at h
    by_cases h3 : c = 0 ∧ 0 < i
    ·rw [if_pos h3] at h; cases h
    ·rw [if_neg h3] at h
     simp only [Option.some.injEq, Prod.mk.injEq] at h
     obtain ⟨rfl, rfl⟩ := h
     exact ⟨c.toNat, by rw [encN_lt (by omega), Int.toNat_of_nonneg hc.1]; rfl, rfl, fun hi => by omega⟩
   ·rw [if_neg h2] at h
    obtain ⟨m, e1, e2, e3⟩ := ih (i + 1) _ n r (fun x hx => hb x (List.mem_cons_of_mem _ hx)) h
    have e3 := e3 (by omega)
    refine ⟨(c.toNat - 128) + 128 * m, ?_, ?_, fun _ => by omega⟩
    ·rw [encN_ge (by omega), show (c.toNat - 128 + 128 * m) / 128 = m by omega, show (((c.toNat - 128 + 128 * m : Nat) : Int) % 128 + 128) = c by omega, e1]
     rfl
    ·rw [e2, pow128, Nat.add_mul, Nat.add_assoc, Nat.mul_comm 128 m, Nat.mul_assoc m]
theorem rRow_can {l r : List Int} (hb : Bytes l) (h : (rRow 65536 (some l)).2 = some r) : l = encR (rRow 65536 (some l)).1 ++ r ∧ (rRow 65536 (some l)).1.length ≤ 65536 := by
 unfold rRow rInt at h ⊢
 cases hd : decGo 0 0 l with
 | none =>
  rw [rNum_none hd] at h
  simp at h
 | some p =>
  obtain ⟨n, q⟩ := p
  rw [rNum_some hd] at h ⊢
  dsimp only at h ⊢
  obtain ⟨m, e1, e2, -⟩ := dec_canW l 0 0 n q hb hd
  have hm : n = m := by rw [e2]; simp
  subst hm
  by_cases hc : (some q).isNone = true ∨ (65536 : Int) < 0 ∨ (65536 : Int) < (n : Int)
  ·rw [if_pos hc] at h
   simp at h
  ·rw [if_neg hc] at h ⊢
   simp only [rTake] at h ⊢
   by_cases hl : q.length < n
   ·rw [if_pos hl] at h; cases h
   ·rw [if_neg hl] at h ⊢
    simp only [Option.some.injEq] at h
    subst h
    have hn : (q.take n).length = n := by rw [List.length_take]; omega
    refine ⟨?_, by show (q.take n).length ≤ 65536; omega⟩
    show l = encN (q.take n).length ++ q.take n ++ q.drop n
    rw [hn, List.append_assoc, List.take_append_drop]
    exact e1
end Go.Proofs.Ythojipjleajajaa

/- Rows of bytes in slices that are appended to; a log (wal.Wal) as an object. -/
namespace Go.Proofs.Ythojipjleajajaa
open Go Go.RowKit Go.Gv

theorem RdR_keepW {R : Nat → Prop} {N : Nat} {w w' : World} {v : Value} {bs : List Int} (h : RdR R N w v bs) (hk : ∀ p u, R p.block → w.cell? p = some u → w'.cell? p = some u) : RdR R N w' v bs :=
 ⟨⟨h.1.1, h.1.2.keepc fun h0 g hg p u hp hc => hk p u (hp ▸ h.2.1 h0 g hg) hc⟩, h.2⟩
theorem RdR_tightW {R : Nat → Prop} {N : Nat} {w : World} {v : Value} {bs : List Int} (h : RdR R N w v bs) : RdR (fun k => R k ∧ k < w.heap.size) N w v bs :=
 ⟨h.1, fun h0 g hg => ⟨h.2.1 h0 g hg, h.1.2.lt (by decide) h0 hg⟩, h.2.2⟩
/-- a row of bytes -/
def RwR : Rep (List Int) where
 sz := 1
 pos := by decide
 rd R w cs b := ∃ v, cs = [v] ∧ RdR R 100000 w v b
 len h := by obtain ⟨v, rfl, _⟩ := h; rfl
 one h := by
  obtain ⟨v, rfl, h0⟩ := h
  obtain ⟨_, _, e⟩ := h0.shape
  subst e
  intro u hu
  simp only [List.mem_cons, List.not_mem_nil, or_false] at hu
  subst hu; rfl
 keep h hk := by obtain ⟨v, rfl, h0⟩ := h; exact ⟨v, rfl, RdR_keepW h0 hk⟩
 wid h hs := by obtain ⟨v, rfl, h0⟩ := h; exact ⟨v, rfl, h0.widen hs (Nat.le_refl _)⟩
 tight h := by obtain ⟨v, rfl, h0⟩ := h; exact ⟨v, rfl, RdR_tightW h0⟩
theorem info_Rw : (Try.prog.info? 22).map (fun i => (i.zero, i.size, i.bytes)) = some (some (.slice none 0 0), RwR.sz, 24) := by kernel_rfl
theorem RwR.mk {R : Nat → Prop} {N : Nat} {w : World} {v : Value} {b : List Int} (h : RdR R N w v b) (hN : b.length ≤ 100000) : RwR.rd R w [v] b := ⟨v, rfl, h.1, h.2.1, hN⟩

/-- its first things, as a slice that may be appended to; with all that is behind them cut off -/
theorem OwS.upto {α : Type} {A : Rep α} {e : TypeId} {R E : Nat → Prop} {w : World} {ao : Option Addr} {n cap : Nat} {l : List α} (h : OwS A e R E w (.slice ao n cap) l) (k c : Nat) (hk : k ≤ l.length) (hc : c = cap ∨ c = k) : OwS A e R E w (.slice ao k c) (l.take k) := by
 obtain ⟨css, h1, h2, h3, h4⟩ := h
 have hcl : ∀ cs ∈ css, cs.length = A.sz := css_len h1 h2 (fun cs a h => A.len h)
 have el : (l.take k).length = k := by simp; omega
 have ef : (css.take k).flatten = css.flatten.take (k * A.sz) := by
  have h5 : css.flatten = (css.take k).flatten ++ (css.drop k).flatten := by rw [← List.flatten_append, List.take_append_drop]
  have h6 : (css.take k).flatten.length = k * A.sz := by rw [flat_len (fun x hx => hcl x (List.mem_of_mem_take hx))]; congr 1; simp; omega
  rw [h5, ← h6, List.take_left]
 have hb : ∀ g, (Value.slice ao k c).ownBlock = some g → (Value.slice ao n cap).ownBlock = some g := fun g hg => by cases ao <;> exact hg
 have hb2 : ∀ g, (Value.slice ao n cap).ownBlock ≠ some g → (Value.slice ao k c).ownBlock ≠ some g := fun g hg he => hg (hb g he)
 refine ⟨css.take k, by simp; omega, fun i cs a hi ha => ?_, ?_, fun g hg => h4 g (hb g hg)⟩
 ·rw [List.getElem?_take] at hi ha
  split at hi
  ·rename_i hik
   rw [if_pos hik] at ha
   exact A.wid (h2 i cs a hi ha) (fun q hq => ⟨hq.1, hb2 q hq.2⟩)
  ·cases hi
 ·rw [el, ef]
  obtain ⟨hl, hE, ⟨hv, hn⟩ | ⟨g, cap', cur, hv, hg, q1, q2, q3, q4, q5⟩⟩ := h3
  ·simp only [Value.slice.injEq] at hv
   obtain ⟨rfl, rfl, rfl⟩ := hv
   obtain rfl : k = 0 := by omega
   obtain rfl : c = 0 := by omega
   exact ⟨by simp, (fun u hu => by simp at hu), .inl ⟨rfl, rfl⟩⟩
  ·simp only [Value.slice.injEq] at hv
   obtain ⟨rfl, rfl, rfl⟩ := hv
   have hkm : k * A.sz ≤ l.length * A.sz := Nat.mul_le_mul_right _ hk
   have hcm : c * A.sz ≤ cap * A.sz := Nat.mul_le_mul_right _ (by omega)
   refine ⟨by rw [List.length_take]; omega, fun u hu => hE u (List.mem_of_mem_take hu), .inr ⟨g, c, cur, rfl, hg, by omega, by omega, by omega, ?_, q5⟩⟩
   rw [← q4, List.take_take, Nat.min_eq_left hkm]
theorem OwS.lt {α : Type} {A : Rep α} {e : TypeId} {R E : Nat → Prop} {w : World} {v : Value} {l : List α} (h : OwS A e R E w v l) {g : Nat} (hg : v.ownBlock = some g) : g < w.heap.size := by
 obtain ⟨_, _, _, h3, _⟩ := h
 exact Own.lt h3 hg
/-- a log: its disk lies at p, its rows in blocks of R beside its own -/
def WlR (R : Nat → Prop) (w : World) (x p : Nat) (rs : List (List Int)) : Prop :=
 ∃ v, Cs w x #[.pointer (some ⟨p, 0, none⟩), v] 62 ∧ R x ∧ OwS RwR 22 (fun k => R k ∧ k ≠ x) (fun k => R k ∧ k ≠ x) w v rs
section
variable {R R' S : Nat → Prop} {w w' : World} {x p : Nat} {rs : List (List Int)}
theorem WlR.mod (h : WlR R w x p rs) (hm : Mod S w w') (hs : ∀ k, R k → S k → False) : WlR R w' x p rs := by
 obtain ⟨v, h1, h2, h3⟩ := h
 exact ⟨v, h1.mod hm (hs x h2), h2, h3.mod hm (fun k hk => hs k hk.1) (fun k hk => hs k hk.1)⟩
theorem WlR.widen (h : WlR R w x p rs) (hs : ∀ k, R k → R' k) : WlR R' w x p rs := by
 obtain ⟨v, h1, h2, h3⟩ := h
 exact ⟨v, h1, hs x h2, h3.widen (fun k hk => ⟨hs k hk.1, hk.2⟩) (fun k hk => ⟨hs k hk.1, hk.2⟩)⟩
end
end Go.Proofs.Ythojipjleajajaa

/- A disk and a log on it as one object; what a put comes to; the plain law of WalTrue. -/
namespace Go.Proofs.Ythojipjleajajaa
open Go Go.RowKit Go.Gv

/-- a disk and a log on it -/
def LgR (R : Nat → Prop) (N : Nat) (w : World) (x p : Nat) (rs : List (List Int)) (s : DS) : Prop :=
  ∃ R1 R2 : Nat → Prop, (∀ k, R1 k → R k) ∧ (∀ k, R2 k → R k) ∧ (∀ k, R1 k → R2 k → False) ∧ WlR R1 w x p rs ∧ DkR R2 N w p s
section
variable {R R' S : Nat → Prop} {N M : Nat} {w w' : World} {x p : Nat} {rs : List (List Int)} {s : DS}
theorem LgR.mod (h : LgR R N w x p rs s) (hm : Mod S w w') (hs : ∀ k, R k → S k → False) : LgR R N w' x p rs s := by
  obtain ⟨R1, R2, h1, h2, h3, h4, h5⟩ := h
  exact ⟨R1, R2, h1, h2, h3, h4.mod hm (fun k hk => hs k (h1 k hk)), h5.mod hm (fun k hk => hs k (h2 k hk))⟩
theorem LgR.widen (h : LgR R N w x p rs s) (hs : ∀ k, R k → R' k) (hM : N ≤ M) : LgR R' M w x p rs s := by
  obtain ⟨R1, R2, h1, h2, h3, h4, h5⟩ := h
  exact ⟨R1, R2, fun k hk => hs k (h1 k hk), fun k hk => hs k (h2 k hk), h3, h4, h5.widen (fun _ h => h) hM⟩
theorem LgR.len (h : LgR R N w x p rs s) : s.b.length ≤ N := by
  obtain ⟨R1, R2, h1, h2, h3, h4, v, h5, h6, h7, h8⟩ := h
  exact h8
end

/-! ### what a put comes to -/
def putS (s : DS) (b : List Int) : DS := if (dStep s).dead then dAppend s (encR b) else dSync (dAppend s (encR b))
def putE (s : DS) (b : List Int) : Int := if (dStep s).dead then 9 else dErr (dAppend s (encR b))
def putL (rs : List (List Int)) (s : DS) (b : List Int) : List (List Int) := if putE s b = 0 then rs ++ [b] else rs
theorem putE_is (s : DS) (b : List Int) : putE s b = 0 ∨ putE s b = 9 := by
  unfold putE dErr
  split
  · exact .inr rfl
  · split
    · exact .inr rfl
    · exact .inl rfl

/-- what WalTrue holds of a disk: good: what was put well; next: what was put behind it, and not well -/
structure TrueI (good next : List (List Int)) (s : DS) : Prop where
  sy : s.sy = (rowsE good).length
  fg : Fit good
  fn : Fit next
  or : (s.b = rowsE good ∧ (s.dead = false → next = [])) ∨ ∃ b t, next = b :: t ∧ s.b = rowsE good ++ encR b ∧ s.dead = true
theorem dead_step {s : DS} (h : s.dead = true) : (dStep s).dead = true := by simp [dStep, dEnds, h]
theorem TrueI.put {good next : List (List Int)} {s : DS} {b : List Int} (h : TrueI good next s) (hb : b.length ≤ 65536) :
    (putE s b = 0 → next = [] ∧ TrueI (good ++ [b]) [] (putS s b)) ∧ (putE s b = 9 → TrueI good (next ++ [b]) (putS s b)) := by
  obtain ⟨h1, h2, h3, h4⟩ := h
  unfold putE putS
  by_cases hd : (dStep s).dead = true
  · rw [if_pos hd, if_pos hd]
    refine ⟨(fun h => by cases h), fun _ => ?_⟩
    have e : dAppend s (encR b) = dStep s := by unfold dAppend; rw [if_pos hd]
    rw [e]
    refine ⟨h1, h2, h3.snoc hb, ?_⟩
    rcases h4 with ⟨h5, h6⟩ | ⟨c, t, h5, h6, h7⟩
    · exact .inl ⟨h5, fun h => by rw [hd] at h; cases h⟩
    · exact .inr ⟨c, t ++ [b], by rw [h5]; rfl, h6, hd⟩
  · rw [if_neg hd, if_neg hd]
    have hs : s.dead = false := by
      cases he : s.dead
      · rfl
      · exact absurd (dead_step he) hd
    have e : dAppend s (encR b) = { dStep s with b := s.b ++ encR b } := by unfold dAppend; rw [if_neg hd]
    rcases h4 with ⟨h5, h6⟩ | ⟨c, t, h5, h6, h7⟩
    · have h6 := h6 hs
      subst h6
      by_cases hd2 : (dStep (dAppend s (encR b))).dead = true
      · have e3 : dErr (dAppend s (encR b)) = 9 := by unfold dErr; rw [if_pos hd2]
        have e4 : dSync (dAppend s (encR b)) = dStep (dAppend s (encR b)) := by unfold dSync; rw [if_pos hd2]
        rw [e3, e4]
        refine ⟨(fun h => by cases h), fun _ => ⟨?_, h2, h3.snoc hb, .inr ⟨b, [], rfl, ?_, hd2⟩⟩⟩
        · rw [e]; exact h1
        · rw [e]; show s.b ++ encR b = _; rw [h5]
      · have e3 : dErr (dAppend s (encR b)) = 0 := by unfold dErr; rw [if_neg hd2]
        have e4 : dSync (dAppend s (encR b)) = { dStep (dAppend s (encR b)) with sy := (dAppend s (encR b)).b.length } := by unfold dSync; rw [if_neg hd2]
        rw [e3, e4]
        refine ⟨fun _ => ⟨rfl, ?_, h2.snoc hb, h3, .inl ⟨?_, fun _ => rfl⟩⟩, fun h => by cases h⟩
        · show (dAppend s (encR b)).b.length = _
          rw [e]; show (s.b ++ encR b).length = _; rw [h5, rowsE_snoc]
        · show (dAppend s (encR b)).b = _
          rw [e]; show s.b ++ encR b = _; rw [h5, rowsE_snoc]
    · rw [hs] at h7; cases h7
theorem TrueI.fresh : TrueI [] [] dZero := ⟨rfl, Fit.nil, Fit.nil, .inl ⟨rfl, fun _ => rfl⟩⟩
/-- any bytes have whole rows ahead -/
theorem Parse.any : ∀ (n : Nat) (bs : List Int), bs.length ≤ n → Bytes bs → ∃ rs, Parse bs rs := by
  intro n
  induction n with
  | zero =>
    intro bs hn hb
    obtain rfl : bs = [] := List.eq_nil_of_length_eq_zero (by omega)
    exact ⟨[], Fit.nil, [], rfl, .inl rfl⟩
  | succ n ih =>
    intro bs hn hb
    cases hr : (rRow 65536 (some bs)).2 with
    | none => exact ⟨[], Fit.nil, bs, rfl, .inr hr⟩
    | some r =>
      obtain ⟨e, hl⟩ := rRow_can hb hr
      have hp := encR_pos (rRow 65536 (some bs)).1
      have hlen := congrArg List.length e
      rw [List.length_append] at hlen
      obtain ⟨rs, h1, rest, h2, h3⟩ := ih r (by omega) (fun x hx => hb x (by rw [e]; exact List.mem_append_right _ hx))
      refine ⟨(rRow 65536 (some bs)).1 :: rs, fun x hx => ?_, rest, ?_, h3⟩
      · rcases List.mem_cons.1 hx with rfl | hx
        · exact hl
        · exact h1 x hx
      · rw [rowsE_cons, List.append_assoc, ← h2]
        exact e
end Go.Proofs.Ythojipjleajajaa

/- wal.Wal: Len, Records; gavelkeep.Rows. -/
namespace Go.Proofs.Ythojipjleajajaa
open Go Go.RowKit Go.Gv


theorem ne_tt {a b : Int} (h : a ≠ b) : (!(a == b)) = true := by simp [h]
theorem ne_ff {a b : Int} (h : a = b) : (!(a == b)) = false := by simp [h]
theorem eq_tt {a b : Int} (h : a = b) : (a == b) = true := by simp [h]
theorem eq_ff {a b : Int} (h : ¬ a = b) : (a == b) = false := by simp [h]
theorem take_succ2 {α : Type} {l m : List α} {k : Nat} (h1 : k < l.length) (h2 : k < m.length) (h : l.take k = m.take k) (he : l[k] = m[k]) : l.take (k + 1) = m.take (k + 1) := by
  rw [List.take_succ_eq_append_getElem h1, List.take_succ_eq_append_getElem h2, h, he]
theorem WLen_Q {R : Nat → Prop} {x p : Nat} {rs : List (List Int)} {w : World} (h : WlR R w x p rs) : Calls Try.prog 13 #[.pointer (some ⟨x, 0, none⟩)] w fun e w' => e = .returned (.int .i64 (rs.length : Nat)) ∧ w = w' := by
  obtain ⟨v, h1, h2, h3⟩ := h
  obtain ⟨ao, cap, rfl⟩ := h3.shape
  have c1 : w.cell? ⟨x, 1, none⟩ = some (.slice ao rs.length cap) := (h1.cell 1).trans rfl
  clear h1 h3
  go_enter Try.func13, Try.ntmps13
  go_wp2
  go_ret
  exact ⟨rfl, rfl⟩
set_option maxHeartbeats 4000000 in
theorem Records_Q {R : Nat → Prop} {x p : Nat} {rs : List (List Int)} {w : World} (h : WlR R w x p rs) (hB : ∀ k, R k → k < w.heap.size) (hl : rs.length ≤ 1000000) :
    Calls Try.prog 14 #[.pointer (some ⟨x, 0, none⟩)] w fun e w' => ∃ v, e = .returned v ∧ OwS RwR 22 (New w w') (New w w') w' v rs ∧ Mod (fun _ => False) w w' := by
  obtain ⟨v0, hc, hx, ho⟩ := h
  obtain ⟨ao, cap, rfl⟩ := ho.shape
  have hxl := hc.lt
  have HWL := Lib.hid hc
  have HL0 := hid (ho.rd.widen (R' := R) (by intro k hk; rcases hk with hk | hk <;> exact hk.1))
  have HBR := Lib.hid hB
  clear hc hx ho hB
  go_enter Try.func14, Try.ntmps14
  go_upto_region 2 with (fail)
  have HM0 := hid (Mod.refl (fun _ => False) w)
  go_upto_region 2 with (fail)
  refine wp_region_U 22 [6, 7, 8, 9, 10, 11] [0, 1, 2, 3, 4, 5] (fun a0 HA0 => ?_)
  have oe0 := ev HA0 0 rfl
  refine QSeq.pure rfl _ (fun E => ex_move rfl (E.v oe0)) ?_
  refine QSeq.pure rfl (.pointer (some ⟨x, 0, none⟩)) (fun E => ex_nil rfl (E.d 0 0)) ?_
  refine QSeq.pure rfl (.pointer (some ⟨x, 1, none⟩)) (fun E => ex_field rfl Try.underlying62 rfl (by kernel_rfl) (E.d 1 0)) ?_
  refine QSeq.pure rfl _ (fun E => ex_load1 rfl Try.underlying33 rfl (E.d 2 0) (Cs.lit1 HWL.out rfl)) ?_
  refine QSeq.pure rfl (.int .i64 rs.length) (fun E => ex_lenS rfl (E.d 3 0) Try.underlying33) ?_
  refine QSeq.pure rfl (.int .i64 0) (fun E => ex_move rfl rfl) ?_
  refine QSeq.nil (t' := [_, _, _, _, _, _]) rfl ?_
  obtain rfl := HA0.out
  clear HA0 oe0
  simp only [pz, Act.put, List.setIfInBounds_toArray, List.set_cons_zero, List.set_cons_succ]
  clear HWL
  go_wp2
  go_loopw [3, 11] (fun ta ti wr => ∃ k : Nat, ti = .int .i64 (k : Int) ∧ k ≤ rs.length ∧ w.heap.size ≤ wr.heap.size ∧ OwS RwR 22 (fun b => w.heap.size ≤ b ∧ b < wr.heap.size) (fun b => w.heap.size ≤ b ∧ b < wr.heap.size) wr ta (rs.take k) ∧ RdS RwR R wr (.slice ao rs.length cap) rs ∧ Mod (fun _ => False) w wr) (fun _ ti _ => rs.length - (intOf ti).toNat)
  case atStart => exact ⟨0, rfl, Nat.zero_le _, Nat.le_refl _, OwS.nil _ _ _ _ _, HL0.out, HM0.out⟩
  case round =>
    obtain ⟨k, rfl, hk, hz, ha, hs, hm⟩ := hrel
    obtain ⟨wl, rfl⟩ : ∃ x, x = wr := ⟨_, rfl⟩
    obtain ⟨aol, capl, rfl⟩ := ha.shape
    have HAL := Lib.hid ha
    have HSL := Lib.hid hs
    have HML := Lib.hid hm
    clear ha hs hm HL0 HM0
    by_cases hlt : k < rs.length
    · skip
      go_upto_region 3 with (fail)
      refine wp_region_U 22 [12] [0] (fun a0 HA0 => ?_)
      have oe10 := ev HA0 10 rfl
      have oe11 := ev HA0 11 rfl
      refine QSeq.pure rfl (.bool true) (fun E => ex_binE rfl (E.v oe11) (E.v oe10) (guard_ints _ _ _ _ _ _) (run_lss_i _ _ _ Try.underlying3) (congrArg Value.bool (decide_eq_true (by omega)))) ?_
      refine QSeq.nil (t' := [_]) rfl ?_
      obtain rfl := HA0.out
      clear HA0 oe10 oe11
      simp only [pz, Act.put, List.setIfInBounds_toArray, List.set_cons_zero, List.set_cons_succ]
      obtain ⟨g0, o0, cs, eao, hrg, hrd, hcs⟩ := HSL.out.at hlt
      subst eao
      obtain ⟨vb, rfl, hvb⟩ := hrd
      obtain ⟨b, hb⟩ : ∃ b, b = rs[k] := ⟨_, rfl⟩
      rw [← hb] at hvb
      obtain ⟨ab, cb, rfl⟩ := hvb.shape
      have HBE := Lib.hid hb
      have hbl : b.length ≤ 100000 := hvb.2.2
      have HAT := hid (show CellsAt R wl g0 (o0 + k * 1) [.slice ab b.length cb] from ⟨hrg, hcs⟩)
      have HEL := Lib.hid hvb
      clear hrg hcs hvb hb
      go_upto_region 4 with (fail)
      refine wp_region_U 22 [13, 14, 5] [0, 1, 2] (fun a0 HA0 => ?_)
      have oe9 := ev HA0 9 rfl
      have oe11 := ev HA0 11 rfl
      refine QSeq.pure rfl (.pointer (some ⟨g0, o0 + k * 1, none⟩)) (fun E => ex_idxS (i := k) (s := 1) rfl Try.underlying33 (by kernel_rfl) (E.v oe9) (E.v oe11) (by omega)) ?_
      refine QSeq.pure rfl (.slice ab b.length cb) (fun E => ex_load1 rfl Try.underlying22 rfl (E.d 0 0) ((HAT.out).2 0 _ rfl)) ?_
      refine QSeq.pure rfl _ (fun E => ex_assign rfl (E.d 1 0)) ?_
      refine QSeq.nil (t' := [_, _, _]) rfl ?_
      obtain rfl := HA0.out
      clear HA0 oe9 oe11
      simp only [pz, Act.put, List.setIfInBounds_toArray, List.set_cons_zero, List.set_cons_succ]
      have HNB := hid (show OwR (fun k => New w w k) 900000 wl (.slice none 0 0) [] from ⟨Own.nil _ _ _ _, (fun g h => by cases h), Nat.zero_le _⟩)
      go_upto_region 5 with (fail)
      refine wp_region_U 22 [15, 16, 17, 18, 19, 3] [0, 1, 2, 3, 4, 5] (fun a0 HA0 => ?_)
      have oe3 := ev HA0 3 rfl
      have oe5 := ev HA0 5 rfl
      refine QSeq.pure rfl _ (fun E => ex_move rfl (E.y 5 oe3)) ?_
      refine QSeq.pure rfl _ (fun E => ex_move rfl (E.v oe5)) ?_
      refine QSeq.go fun act E => ?_
      refine qc_appR rfl (wanted_none rfl) rfl rfl (E.d 1 0) HNB.out HEL.out (by simpa using (show b.length ≤ 900000 by omega)) ?_
      intro ao1 cap1 u5_2 qnb hm
      have Hx1 := hid (qnb.widen (R' := (fun k => (New w w k) ∨ (New wl u5_2 k))) (fun _ h => h) (Nat.le_refl _))
      have zu5_2 := hm.size
      have Cx2 := hid (show Mod (fun k => (New w w k)) wl u5_2 from hm)
      clear hm
      clear act E qnb HNB
      refine QSeq.go fun act E => ?_
      have ea17 : act.eval (.tmp 17) = .slice ao1 (([] : List Int).length + b.length) cap1 := (E.d 2 0)
      refine qc_rows rfl (wanted_none rfl) rfl Try.underlying33 (by decide) (C := #[.slice ao1 (([] : List Int).length + b.length) cap1]) (by simp only [List.map_toArray, List.map_cons, List.map_nil, ea17]; kernel_rfl) ?_
      intro u5_3 qrow hm
      have zl5_3 := qrow.lt
      have Hx3 := hid qrow
      have zu5_3 := hm.size
      have HMu5_3 := hid hm
      have Cx4 := hid (Cx2.out.goE hm)
      clear hm Cx2
      clear act E qrow ea17
      refine QSeq.go fun act E => ?_
      refine qc_appS (A := RwR) (e := 22) rfl (wanted_none rfl) rfl (.slice none 0 0) 24 Try.underlying33 info_Rw (by rfl) (of_decide_eq_true (by kernel_rfl)) (E.d 0 3) (E.d 3 0) ((HAL.out.mod Cx4.out (by intro k h1 h2; omega) (by intro k h1 h2; omega))) (RdS.single (R := (fun k => (New w w k) ∨ (New wl u5_2 k) ∨ (k = u5_2.heap.size))) Hx3.out (RwR.mk (b := b) ((Hx1.out.mod HMu5_3.out (fun _ _ h => h)).rd.widen (R' := (fun k => (New w w k) ∨ (New wl u5_2 k) ∨ (k = u5_2.heap.size))) (by intro k h1; rcases h1 with h1 | h1 <;> first | exact Or.inl h1 | exact Or.inr (Or.inl h1)) (Nat.le_refl _)) hbl) (by right; right; rfl)) (by intro k h1 h2; omega) (by have h9 : (rs.take k).length ≤ 1000000 := (by rw [List.length_take]; omega); simp only [List.length_cons, List.length_nil]; omega) (by have h9 : (rs.take k).length ≤ 1000000 := (by rw [List.length_take]; omega); rw [maxLen_val]; simp only [List.length_cons, List.length_nil]; omega) ?_
      intro ao3 cap3 u5_4 qout hm
      have Hx5 := hid (qout.widen (R' := (fun k => (New w wl k) ∨ (New u5_3 u5_4 k))) (E' := (fun k => (New w wl k) ∨ (New w w k) ∨ (New wl u5_2 k) ∨ (k = u5_2.heap.size))) (fun _ h => h) (by intro k h1; rcases h1 with h1 | (h1 | h1 | h1) <;> first | omega | exact h1.elim | exact Or.inl h1 | exact Or.inr (Or.inl h1) | exact Or.inr (Or.inr (Or.inl h1)) | exact Or.inr (Or.inr (Or.inr (h1)))))
      have zu5_4 := hm.size
      have HMu5_4 := hid hm
      have Cx6 := hid (Mod.goS (S' := (fun k => (New w w k) ∨ (New w wl k))) Cx4.out hm (fun _ h => Or.inl h) (by intro k h0 h2; exact Or.inr (h2)))
      clear hm Cx4
      clear act E qout HAL
      refine QSeq.pure rfl _ (fun E => ex_assign rfl (E.d 4 0)) ?_
      have Hx7 := hid ((Hx1.out.mod HMu5_3.out (fun _ _ h => h)).mod HMu5_4.out (by intro k h1 h2; omega))
      have Hx8 := hid (Hx3.out.mod HMu5_4.out (by intro h2; omega))
      clear Hx1 Hx3 HMu5_3 HMu5_4
      refine QSeq.nil (t' := [_, _, _, _, _, _]) rfl ?_
      obtain rfl := HA0.out
      clear HA0 oe3 oe5
      simp only [pz, Act.put, List.setIfInBounds_toArray, List.set_cons_zero, List.set_cons_succ]
      have hq := Hx5.out
      rw [HBE.out, show rs.take k ++ [rs[k]] = rs.take (k + 1) from (List.take_succ_eq_append_getElem hlt).symm] at hq
      have HQ := Lib.hid hq
      clear hq
      go_upto_region 6 with (fail)
      refine wp_region_U 22 [20, 11] [0, 1] (fun a0 HA0 => ?_)
      have oe11 := ev HA0 11 rfl
      refine QSeq.pure rfl (.int .i64 (((k : Nat) : Int) + 1)) (fun E => ex_binE rfl (E.y 1 oe11) rfl (guard_ints _ _ _ _ _ _) (run_add_i _ _ Try.underlying3) (congrArg (Value.int .i64) (IntWalk.i64_in _ (by omega)))) ?_
      refine QSeq.pure rfl _ (fun E => ex_move rfl (E.d 0 0)) ?_
      refine QSeq.nil (t' := [_, _]) rfl ?_
      obtain rfl := HA0.out
      clear HA0 oe11
      simp only [pz, Act.put, List.setIfInBounds_toArray, List.set_cons_zero, List.set_cons_succ]
      go_wp2
      go_roundw
      case rel => exact ⟨k + 1, by go_num, by omega, by omega, HQ.out.widen (by intro b h1; (try dsimp only at h1 ⊢); (try simp only [false_or] at h1); omega) (by intro b h1; (try dsimp only at h1 ⊢); (try simp only [false_or] at h1); omega), (HSL.out.mod Cx6.out (by intro k h1 h2; have hb := HBR.out k h1; omega)), (HML.out.trans Cx6.out (by intro k h1 h2; omega))⟩
      case measure => simp [intOf]; omega
    · obtain rfl : rs.length = k := by omega
      have hq := HAL.out
      rw [List.take_length] at hq
      have HQ := Lib.hid hq
      clear hq
      go_upto_region 3 with (fail)
      refine wp_region_U 22 [12] [0] (fun a0 HA0 => ?_)
      have oe10 := ev HA0 10 rfl
      have oe11 := ev HA0 11 rfl
      refine QSeq.pure rfl (.bool false) (fun E => ex_binE rfl (E.v oe11) (E.v oe10) (guard_ints _ _ _ _ _ _) (run_lss_i _ _ _ Try.underlying3) (congrArg Value.bool (decide_eq_false (by omega)))) ?_
      refine QSeq.nil (t' := [_]) rfl ?_
      obtain rfl := HA0.out
      clear HA0 oe10 oe11
      simp only [pz, Act.put, List.setIfInBounds_toArray, List.set_cons_zero, List.set_cons_succ]
      go_upto_region 7 with (fail)
      refine wp_region_U 22 [21, 2] [0, 1] (fun a0 HA0 => ?_)
      have oe3 := ev HA0 3 rfl
      refine QSeq.pure rfl _ (fun E => ex_move rfl (E.v oe3)) ?_
      refine QSeq.pure rfl _ (fun E => ex_assign rfl (E.d 0 0)) ?_
      refine QSeq.nil (t' := [_, _]) rfl ?_
      obtain rfl := HA0.out
      clear HA0 oe3
      simp only [pz, Act.put, List.setIfInBounds_toArray, List.set_cons_zero, List.set_cons_succ]
      go_wp2
      go_ret
      exact ⟨_, rfl, by rw [List.take_length]; exact HQ.out.widen (by intro b h1; (try dsimp only at h1 ⊢); omega) (by intro b h1; (try dsimp only at h1 ⊢); omega), HML.out⟩
set_option maxHeartbeats 4000000 in
theorem Rows_W {R R2 : Nat → Prop} {v v2 : Value} {l m : List (List Int)} {w : World} (hs : RdS RwR R w v l) (ht : RdS RwR R2 w v2 m) (hB : ∀ k, R k → k < w.heap.size) (hB2 : ∀ k, R2 k → k < w.heap.size) :
    Calls Try.prog 18 #[v, v2] w fun e w' => e = .returned (.bool (decide (l = m))) ∧ Mod (fun _ => False) w w' := by
  obtain ⟨ao, cap, rfl⟩ := hs.shape
  obtain ⟨bo, bcap, rfl⟩ := ht.shape
  have hlm : l.length ≤ maxLen := hs.bd
  rw [maxLen_val] at hlm
  have HS := Lib.hid hs
  have HT := Lib.hid ht
  have HBR := Lib.hid hB
  have HBT := Lib.hid hB2
  clear hs ht hB hB2
  go_enter Try.func18, Try.ntmps18
  go_upto_region 1 with (fail)
  have HM0 := hid (Mod.refl (fun _ => False) w)
  by_cases hl : l.length = m.length
  rotate_left
  · skip
    go_upto_region 1 with (fail)
    refine wp_region_U 27 [6, 7, 8, 9, 10] [0, 1, 2, 3, 4] (fun a0 HA0 => ?_)
    have oe0 := ev HA0 0 rfl
    have oe1 := ev HA0 1 rfl
    refine QSeq.pure rfl _ (fun E => ex_move rfl (E.v oe0)) ?_
    refine QSeq.pure rfl (.int .i64 l.length) (fun E => ex_lenS rfl (E.d 0 0) Try.underlying33) ?_
    refine QSeq.pure rfl _ (fun E => ex_move rfl (E.v oe1)) ?_
    refine QSeq.pure rfl (.int .i64 m.length) (fun E => ex_lenS rfl (E.d 2 0) Try.underlying33) ?_
    refine QSeq.pure rfl (.bool true) (fun E => ex_binE rfl (E.d 1 2) (E.d 3 0) (guard_ints _ _ _ _ _ _) (run_neq_i _ _ _ Try.underlying3) (congrArg Value.bool (ne_tt (by omega)))) ?_
    refine QSeq.nil (t' := [_, _, _, _, _]) rfl ?_
    obtain rfl := HA0.out
    clear HA0 oe0 oe1
    simp only [pz, Act.put, List.setIfInBounds_toArray, List.set_cons_zero, List.set_cons_succ]
    go_upto_region 2 with (fail)
    refine wp_region_U 27 [4] [0] (fun a0 HA0 => ?_)
    refine QSeq.pure rfl (.bool false) (fun E => ex_assign rfl rfl) ?_
    refine QSeq.nil (t' := [_]) rfl ?_
    obtain rfl := HA0.out
    clear HA0
    simp only [pz, Act.put, List.setIfInBounds_toArray, List.set_cons_zero, List.set_cons_succ]
    go_wp2
    go_ret
    exact ⟨ret_bool (decide_eq_false (fun e => hl (by rw [e]))).symm, HM0.out⟩
  · skip
    go_upto_region 1 with (fail)
    refine wp_region_U 27 [6, 7, 8, 9, 10] [0, 1, 2, 3, 4] (fun a0 HA0 => ?_)
    have oe0 := ev HA0 0 rfl
    have oe1 := ev HA0 1 rfl
    refine QSeq.pure rfl _ (fun E => ex_move rfl (E.v oe0)) ?_
    refine QSeq.pure rfl (.int .i64 l.length) (fun E => ex_lenS rfl (E.d 0 0) Try.underlying33) ?_
    refine QSeq.pure rfl _ (fun E => ex_move rfl (E.v oe1)) ?_
    refine QSeq.pure rfl (.int .i64 m.length) (fun E => ex_lenS rfl (E.d 2 0) Try.underlying33) ?_
    refine QSeq.pure rfl (.bool false) (fun E => ex_binE rfl (E.d 1 2) (E.d 3 0) (guard_ints _ _ _ _ _ _) (run_neq_i _ _ _ Try.underlying3) (congrArg Value.bool (ne_ff (by omega)))) ?_
    refine QSeq.nil (t' := [_, _, _, _, _]) rfl ?_
    obtain rfl := HA0.out
    clear HA0 oe0 oe1
    simp only [pz, Act.put, List.setIfInBounds_toArray, List.set_cons_zero, List.set_cons_succ]
    go_upto_region 3 with (fail)
    refine wp_region_U 27 [5] [0] (fun a0 HA0 => ?_)
    refine QSeq.pure rfl (.int .i64 0) (fun E => ex_assign rfl rfl) ?_
    refine QSeq.nil (t' := [_]) rfl ?_
    obtain rfl := HA0.out
    clear HA0
    simp only [pz, Act.put, List.setIfInBounds_toArray, List.set_cons_zero, List.set_cons_succ]
    have HLE := Lib.hid hl
    clear hl
    go_wp2
    go_loopw [5] (fun ti wr => ∃ k : Nat, ti = .int .i64 (k : Int) ∧ k ≤ l.length ∧ l.take k = m.take k ∧ w.heap.size ≤ wr.heap.size ∧ RdS RwR R wr (.slice ao l.length cap) l ∧ RdS RwR R2 wr (.slice bo m.length bcap) m ∧ Mod (fun _ => False) w wr) (fun ti _ => l.length - (intOf ti).toNat)
    case atStart => exact ⟨0, rfl, Nat.zero_le _, rfl, Nat.le_refl _, HS.out, HT.out, HM0.out⟩
    case round =>
      obtain ⟨k, rfl, hk, htk, hz, hs, ht, hm⟩ := hrel
      obtain ⟨wl, rfl⟩ : ∃ x, x = wr := ⟨_, rfl⟩
      have HS2 := Lib.hid hs
      have HT2 := Lib.hid ht
      have HML := Lib.hid hm
      have HTK := Lib.hid htk
      clear hs ht hm htk HS HT HM0
      by_cases hlt : k < l.length
      · have hlt2 : k < m.length := by have := HLE.out; omega
        go_upto_region 4 with (fail)
        refine wp_region_U 27 [11, 12, 13, 14] [0, 1, 2, 3] (fun a0 HA0 => ?_)
        have oe0 := ev HA0 0 rfl
        have oe5 := ev HA0 5 rfl
        refine QSeq.pure rfl _ (fun E => ex_move rfl (E.v oe5)) ?_
        refine QSeq.pure rfl _ (fun E => ex_move rfl (E.v oe0)) ?_
        refine QSeq.pure rfl (.int .i64 l.length) (fun E => ex_lenS rfl (E.d 1 0) Try.underlying33) ?_
        refine QSeq.pure rfl (.bool true) (fun E => ex_binE rfl (E.d 0 2) (E.d 2 0) (guard_ints _ _ _ _ _ _) (run_lss_i _ _ _ Try.underlying3) (congrArg Value.bool (decide_eq_true (by omega)))) ?_
        refine QSeq.nil (t' := [_, _, _, _]) rfl ?_
        obtain rfl := HA0.out
        clear HA0 oe0 oe5
        simp only [pz, Act.put, List.setIfInBounds_toArray, List.set_cons_zero, List.set_cons_succ]
        have hat := HS2.out.at hlt
        obtain ⟨g1, o1, cs, eao, hrg, hrd, hcs⟩ := hat
        subst eao
        obtain ⟨vb, rfl, hvb⟩ := hrd
        obtain ⟨x, hb⟩ : ∃ b, b = l[k] := ⟨_, rfl⟩
        rw [← hb] at hvb
        obtain ⟨a1, c1, rfl⟩ := hvb.shape
        have HX1 := Lib.hid hb
        have HAT1 := hid (show CellsAt R wl g1 (o1 + k * 1) [.slice a1 x.length c1] from ⟨hrg, hcs⟩)
        have HEL1 := Lib.hid hvb
        clear hrg hcs hvb hb
        have hat := HT2.out.at hlt2
        obtain ⟨g2, o2, cs, eao, hrg, hrd, hcs⟩ := hat
        subst eao
        obtain ⟨vb, rfl, hvb⟩ := hrd
        obtain ⟨y, hb⟩ : ∃ b, b = m[k] := ⟨_, rfl⟩
        rw [← hb] at hvb
        obtain ⟨a2, c2, rfl⟩ := hvb.shape
        have HX2 := Lib.hid hb
        have HAT2 := hid (show CellsAt R2 wl g2 (o2 + k * 1) [.slice a2 y.length c2] from ⟨hrg, hcs⟩)
        have HEL2 := Lib.hid hvb
        clear hrg hcs hvb hb
        obtain ⟨b, hb⟩ : ∃ b, b = decide (x = y) := ⟨_, rfl⟩
        have HB := Lib.hid hb
        clear hb
        go_upto_region 6 with (fail)
        generalize ha0 : Act.mk _ _ = a0
        have oe0 : a0.eval (.tmp 0) = .slice (some ⟨g1, o1, none⟩) l.length cap := by rw [← ha0]; rfl
        have oe1 : a0.eval (.tmp 1) = .slice (some ⟨g2, o2, none⟩) m.length bcap := by rw [← ha0]; rfl
        have oe5 : a0.eval (.tmp 5) = .int .i64 ((k : Nat) : Int) := by rw [← ha0]; rfl
        have hsz0 : a0.tmps.size = 27 := by rw [← ha0]; rfl
        have HA0 := hid ha0
        clear ha0
        refine wp_region_Q0 27 hsz0 [17, 18, 19, 20, 21, 22, 23, 24, 25, 26] [qi (.slice (some ⟨g1, o1, none⟩) l.length cap), qi (.int .i64 ((k : Nat) : Int)), qi (.pointer (some ⟨g1, o1 + k * 1, none⟩)), qi (.slice a1 x.length c1), qi (.slice (some ⟨g2, o2, none⟩) m.length bcap), qi (.int .i64 ((k : Nat) : Int)), qi (.pointer (some ⟨g2, o2 + k * 1, none⟩)), qi (.slice a2 y.length c2), qi (.bool b), qi (.bool (!b))] ⟨qi_stable, qi_stable, qi_stable, qi_stable, qi_stable, qi_stable, qi_stable, qi_stable, qi_stable, qi_stable, trivial⟩ [8] ⟨?_, ?_, ?_, ?_, ?_, ?_, ?_, ?_, ?_, ?_, trivial⟩ ?_
        · exact stq (fun E => ex_move rfl (E.v oe0))
        · exact stq (fun E => ex_move rfl (E.v oe5))
        · exact stq (fun E => ex_idxS (i := k) (s := 1) rfl Try.underlying33 (by kernel_rfl) (E.d 0) (E.d 1) (by first | exact hlt | exact hlt2))
        · exact stq (fun E => ex_load1 rfl Try.underlying22 rfl (E.d 2) (((HAT1.out.mod E.m.old (by intro k h1 h2; have hb := HBR.out k h1; omega))).2 0 _ rfl))
        · exact stq (fun E => ex_move rfl (E.v oe1))
        · exact stq (fun E => ex_move rfl (E.v oe5))
        · exact stq (fun E => ex_idxS (i := k) (s := 1) rfl Try.underlying33 (by kernel_rfl) (E.d 4) (E.d 5) (by first | exact hlt | exact hlt2))
        · exact stq (fun E => ex_load1 rfl Try.underlying22 rfl (E.d 6) (((HAT2.out.mod E.m.old (by intro k h1 h2; have hb := HBT.out k h1; omega))).2 0 _ rfl))
        · exact stepq_chain rfl
        · exact stq (fun E => ex_not rfl (E.d 8))
        intro u6_0 hr
        have zu6_0 := hr.size
        have Cx1 := hid (hr.new (S := (fun _ => False)))
        clear hr
        refine QChain.go fun Z act E => ?_
        refine qc_callF (args := #[.slice a1 x.length c1, .slice a2 y.length c2]) rfl (wanted_none rfl) rfl Try.func15 (args2 (E.d 3) (E.d 7)) (HB.out.symm ▸ Same_R (HEL1.out.mod Cx1.out (fun _ _ h => h)) (HEL2.out.mod Cx1.out (fun _ _ h => h))) ?_
        rintro e u6_1a ⟨rfl, hm⟩
        have zu6_1a := hm.size
        refine ⟨_, rfl, hm.mono (fun _ _ h => h.elim), (fun _ => rfl), ?_⟩
        intro u6_1 hr
        have zu6_1 := hr.size
        have Cx2 := hid (Cx1.out.go hm hr)
        clear Cx1 hm hr Z act E
        refine QChain.nil fun vs hl hzz hrows hne => ?_
        obtain ⟨Z, hYZ, hZb, hV⟩ := hzz
        have f0 := fvi hV hl 0
        have f1 := fvi hV hl 1
        have f4 := fvi hV hl 4
        have f5 := fvi hV hl 5
        have f8 := fvi hV hl 8
        have f9 := fvi hV hl 9
        rw [show vs = [gw vs 0, gw vs 1, gw vs 2, gw vs 3, gw vs 4, gw vs 5, gw vs 6, gw vs 7, gw vs 8, gw vs 9] from (gw_eta hl).trans rfl]
        have ha0 := HA0.out
        subst ha0
        clear HA0 hV hYZ hZb hsz0 hrows hne oe0 oe1 oe5
        simp only [putAll, Act.put, List.setIfInBounds_toArray, List.set_cons_zero, List.set_cons_succ, f0, f1, f4, f5, f8, f9]
        clear hl f0 f1 f4 f5 f8 f9
        cases b with
        | false =>
          go_upto_region 7 with (fail)
          refine wp_region_U 27 [4] [0] (fun a0 HA0 => ?_)
          refine QSeq.pure rfl (.bool false) (fun E => ex_assign rfl rfl) ?_
          refine QSeq.nil (t' := [_]) rfl ?_
          obtain rfl := HA0.out
          clear HA0
          simp only [pz, Act.put, List.setIfInBounds_toArray, List.set_cons_zero, List.set_cons_succ]
          go_wp2
          go_ret
          exact ⟨ret_bool (decide_eq_false (fun e => by subst e; have h := HB.out; rw [HX1.out, HX2.out, decide_eq_true rfl] at h; cases h)).symm, (HML.out.trans Cx2.out (fun _ _ h => h.elim))⟩
        | true =>
          go_upto_region 5 with (fail)
          refine wp_region_U 27 [15, 16, 5] [0, 1, 2] (fun a0 HA0 => ?_)
          have oe5 := ev HA0 5 rfl
          refine QSeq.pure rfl _ (fun E => ex_move rfl (E.y 2 oe5)) ?_
          refine QSeq.pure rfl (.int .i64 (((k : Nat) : Int) + 1)) (fun E => ex_binE rfl (E.d 0 0) rfl (guard_ints _ _ _ _ _ _) (run_add_i _ _ Try.underlying3) (congrArg (Value.int .i64) (IntWalk.i64_in _ (by omega)))) ?_
          refine QSeq.pure rfl _ (fun E => ex_assign rfl (E.d 1 0)) ?_
          refine QSeq.nil (t' := [_, _, _]) rfl ?_
          obtain rfl := HA0.out
          clear HA0 oe5
          simp only [pz, Act.put, List.setIfInBounds_toArray, List.set_cons_zero, List.set_cons_succ]
          go_wp2
          go_roundw
          case rel => exact ⟨k + 1, by go_num, by omega, take_succ2 hlt hlt2 HTK.out (by have h := of_decide_eq_true HB.out.symm; rw [HX1.out, HX2.out] at h; exact h), by omega, (HS2.out.mod Cx2.out (fun _ _ h => h)), (HT2.out.mod Cx2.out (fun _ _ h => h)), (HML.out.trans Cx2.out (fun _ _ h => h.elim))⟩
          case measure => simp [intOf] <;> omega
      · skip
        go_upto_region 4 with (fail)
        refine wp_region_U 27 [11, 12, 13, 14] [0, 1, 2, 3] (fun a0 HA0 => ?_)
        have oe0 := ev HA0 0 rfl
        have oe5 := ev HA0 5 rfl
        refine QSeq.pure rfl _ (fun E => ex_move rfl (E.v oe5)) ?_
        refine QSeq.pure rfl _ (fun E => ex_move rfl (E.v oe0)) ?_
        refine QSeq.pure rfl (.int .i64 l.length) (fun E => ex_lenS rfl (E.d 1 0) Try.underlying33) ?_
        refine QSeq.pure rfl (.bool false) (fun E => ex_binE rfl (E.d 0 2) (E.d 2 0) (guard_ints _ _ _ _ _ _) (run_lss_i _ _ _ Try.underlying3) (congrArg Value.bool (decide_eq_false (by omega)))) ?_
        refine QSeq.nil (t' := [_, _, _, _]) rfl ?_
        obtain rfl := HA0.out
        clear HA0 oe0 oe5
        simp only [pz, Act.put, List.setIfInBounds_toArray, List.set_cons_zero, List.set_cons_succ]
        go_upto_region 8 with (fail)
        refine wp_region_U 27 [4] [0] (fun a0 HA0 => ?_)
        refine QSeq.pure rfl (.bool true) (fun E => ex_assign rfl rfl) ?_
        refine QSeq.nil (t' := [_]) rfl ?_
        obtain rfl := HA0.out
        clear HA0
        simp only [pz, Act.put, List.setIfInBounds_toArray, List.set_cons_zero, List.set_cons_succ]
        go_wp2
        go_ret
        exact ⟨ret_bool (decide_eq_true (by have h := HTK.out; have h9 := HLE.out; rwa [List.take_of_length_le (by omega), List.take_of_length_le (by omega)] at h)).symm, HML.out⟩
end Go.Proofs.Ythojipjleajajaa

/- The contracts of disks and readers once more, each state told by its parts. -/
namespace Go.Proofs.Ythojipjleajajaa
open Go Go.RowKit Go.Gv

theorem run_eql_nil {P : Program} {tp te : TypeId} (a : Addr) (hp : P.underlying tp = some (.pointer te)) (hte : (P.info? te).isSome = true) (w : World) :
    (binOp .eql tp (.pointer (some a)) (.pointer none)).run P w = .ok (.bool false) w := by
  obtain ⟨j, hj⟩ := Option.isSome_iff_exists.1 hte
  have h : ∀ d : Nat, (Op.equalIn (d + 1) tp (.pointer (some a)) (.pointer none)).run P w = .ok false w := fun d => by
    simp [Op.equalIn, run_underlying hp, sizeOf, typeInfo, hj]
  simp only [binOp]
  simp [Op.equal, Op.maxDepth, h 9999]
theorem run_neq_nil {P : Program} {tp te : TypeId} (a : Addr) (hp : P.underlying tp = some (.pointer te)) (hte : (P.info? te).isSome = true) (w : World) :
    (binOp .neq tp (.pointer (some a)) (.pointer none)).run P w = .ok (.bool true) w := by
  obtain ⟨j, hj⟩ := Option.isSome_iff_exists.1 hte
  have h : ∀ d : Nat, (Op.equalIn (d + 1) tp (.pointer (some a)) (.pointer none)).run P w = .ok false w := fun d => by
    simp [Op.equalIn, run_underlying hp, sizeOf, typeInfo, hj]
  simp only [binOp]
  simp [Op.equal, Op.maxDepth, h 9999]
theorem guard_ptr {P : Program} (op : BinOp) (T : TypeId) (x y : Operand) (a b : Option Addr) (w : World) : (eqGuard op T x y (.pointer a) (.pointer b)).run P w = .ok () w := by
  unfold eqGuard
  cases op <;> simp
theorem ex_max {P : Program} {w : World} {a : Act} {o : Oper} {x y : Operand} {ts : Array TypeId} {k k' : IntKind} {m n r : Int} (ho : o.op = .call { callee := .builtin .max, args := #[x, y], argTypes := ts }) (hx : a.eval x = .int k m) (hy : a.eval y = .int k' n) (he : (if n > m then n else m) = r) : (execOp a.eval o).run P w = .ok (.value (.int k r)) w := by
  subst he
  unfold execOp
  simp [ho, resolve, invoke, builtin, hx, hy, run_max_int2, Result.andThen]
/-- l[:i:m] -/
theorem ex_sliceTo3 {P : Program} {w : World} {a : Act} {o : Oper} {T e : TypeId} {x y z : Operand} {ao : Option Addr} {n cap i m : Nat} {s : Nat} {k k' : IntKind} (ho : o.op = .slice T x none (some y) (some z)) (hu : P.underlying T = some (.slice e)) (hs : (P.info? e).map (·.size) = some s) (hx : a.eval x = .slice ao n cap) (hy : a.eval y = .int k (i : Int)) (hz : a.eval z = .int k' (m : Int)) (hi : i ≤ m) (hm : m ≤ cap) :
    (execOp a.eval o).run P w = .ok (.value (.slice ao i m)) w := by
  have hsz : (sizeOf e).run P w = .ok s w := by
    cases hq : P.info? e with
    | none => rw [hq] at hs; cases hs
    | some i => rw [hq] at hs; simp [sizeOf, typeInfo, hq]; exact Option.some.inj hs
  have hm2 : ao.map (fun x => x.add 0) = ao := by cases ao with | none => rfl | some x => simp [add_zero]
  unfold execOp
  simp [ho, hx, hy, hz, Instr.sliceAt, Instr.slice, Instr.sliceBounds, Instr.sliceBound, asIntOf, run_underlying hu, hsz, hi, hm]
  intro h0
  exact hm2
theorem i64_eq {a b : Int} (h : a = b) (h1 : -9223372036854775808 ≤ b) (h2 : b ≤ 9223372036854775807) : IntKind.i64.wrap a = b := by
  subst h
  exact IntWalk.i64_in _ ⟨h1, h2⟩
section
variable {R R' : Nat → Prop} {N M p : Nat} {b : List Int} {sy fu : Nat} {lit dead : Bool} {w : World}
theorem DkR.syb (h : DkR R N w p ⟨b, sy, fu, lit, dead⟩) : sy ≤ b.length ∧ b.length ≤ N := by
  obtain ⟨v, h1, h2, h3, h4⟩ := h
  exact ⟨h1.2.2.2.1, h4⟩
theorem DkR.byt {s : DS} (h : DkR R N w p s) : Bytes s.b := by
  obtain ⟨v, h1, h2, h3, h4⟩ := h
  exact h1.2.1.rd.1
theorem Dead_Q (h : DkR R N w p ⟨b, sy, fu, lit, dead⟩) : Calls Try.prog 31 #[.pointer (some ⟨p, 0, none⟩)] w fun e w' => e = .returned (.bool dead) ∧ w = w' := Dead_R h
theorem Len_Q (h : DkR R N w p ⟨b, sy, fu, lit, dead⟩) : Calls Try.prog 20 #[.pointer (some ⟨p, 0, none⟩)] w fun e w' => e = .returned (.int .i64 (b.length : Nat)) ∧ w = w' := Len_R h
theorem Synced_Q (h : DkR R N w p ⟨b, sy, fu, lit, dead⟩) : Calls Try.prog 19 #[.pointer (some ⟨p, 0, none⟩)] w fun e w' => e = .returned (.int .i64 (sy : Nat)) ∧ w = w' := Synced_R h
theorem Read_Q (h : DkR R N w p ⟨b, sy, fu, lit, dead⟩) (hN : N ≤ 900000) : Calls Try.prog 17 #[.pointer (some ⟨p, 0, none⟩)] w fun e w' => ∃ v', e = .returned v' ∧ OwR (New w w') 900000 w' v' b ∧ Mod (fun _ => False) w w' :=
  (Read_R h (by omega)).mono fun e w' ⟨v', he, ho, hm⟩ => ⟨v', he, ho.widen (fun _ h => h) hN, hm⟩
theorem Sync_Q (h : DkR R N w p ⟨b, sy, 0, false, false⟩) : Calls Try.prog 37 #[.pointer (some ⟨p, 0, none⟩)] w fun e w' => e = .returned (.int .i64 0) ∧ DkR R N w' p ⟨b, b.length, 0, false, false⟩ ∧ Mod R w w' := Sync_R h
theorem Cut_Q {n : Nat} (h : DkR R N w p ⟨b, sy, 0, false, false⟩) (hn : n ≤ b.length) (hN : N ≤ 900000) : Calls Try.prog 36 #[.pointer (some ⟨p, 0, none⟩), .int .i64 (n : Nat)] w fun e w' => e = .returned (.int .i64 0) ∧ DkR R N w' p ⟨b.take n, min sy n, 0, false, false⟩ ∧ Mod R w w' :=
  Cut_ok h rfl rfl hn (by omega)
end
section
variable {R : Nat → Prop} {r : Nat} {w : World} {l b rest : List Int}
theorem Left_Q (h : RrR 75 R w r (some l)) : Calls Try.prog 33 #[.pointer (some ⟨r, 0, none⟩)] w fun e w' => e = .returned (.int .i64 (l.length : Nat)) ∧ w = w' := Left_R h
theorem OK_Q {s : RSt} {x : Bool} (h : RrR 75 R w r s) (hx : s.isSome = x) : Calls Try.prog 35 #[.pointer (some ⟨r, 0, none⟩)] w fun e w' => e = .returned (.bool x) ∧ w = w' := by subst hx; exact OK_R h
theorem Row_Q (h : RrR 75 R w r (some (encR b ++ rest))) (hb : b.length ≤ 65536) :
    Calls Try.prog 34 #[.pointer (some ⟨r, 0, none⟩), .int .i64 65536] w fun e w' => ∃ v', e = .returned v' ∧ OwR (New w w') 900000 w' v' b ∧ RrR 75 R w' r (some rest) ∧ Mod R w w' := by
  have K := RRow_R (most := 65536) h (by decide)
  rw [rRow_encR hb] at K
  exact K.mono fun e w' ⟨v', he, ho, hr, hm⟩ => ⟨v', he, ho.widen (fun _ h => h) (by decide), hr, hm⟩
theorem Row_stuck (h : RrR 75 R w r (some l)) (hs : (rRow 65536 (some l)).2 = none) :
    Calls Try.prog 34 #[.pointer (some ⟨r, 0, none⟩), .int .i64 65536] w fun e w' => ∃ v', e = .returned v' ∧ OwR (New w w') 900000 w' v' (rRow 65536 (some l)).1 ∧ RrR 75 R w' r none ∧ Mod R w w' := by
  have K := RRow_R (most := 65536) h (by decide)
  rw [hs] at K
  exact K.mono fun e w' ⟨v', he, ho, hr, hm⟩ => ⟨v', he, ho.widen (fun _ h => h) (by decide), hr, hm⟩
end
theorem WRow_W {R R' : Nat → Prop} {M g : Nat} {v2 : Value} {cs : List Int} {w : World} (hW : WrR R 900000 w g []) (hr : RdR R' M w v2 cs) (hs : ∀ k, R' k → R k → False) (hl : cs.length ≤ 100000) :
    Calls Try.prog 39 #[.pointer (some ⟨g, 0, none⟩), v2] w fun e w' => e = .returned (.pointer (some ⟨g, 0, none⟩)) ∧ WrR (fun k => R k ∨ New w w' k) 900000 w' g (encR cs) ∧ Mod R w w' := by
  obtain ⟨v, h1, h2, h3, h4⟩ := hW
  obtain ⟨ao, cap, rfl⟩ := hr.shape
  have hel := encR_len (b := cs) (by omega)
  refine (WRow_any g v [] ao cap cs w h1 hr.1 ?_ (by unfold Room; simp only [List.length_nil]; omega)).mono fun _ _ ⟨he, h⟩ => ⟨he, WrTo_R (bs := encR cs) _ h2 h3 h (by omega)⟩
  intro h0 k hg hk
  rcases hk with rfl | hk
  · exact hs _ (hr.2.1 h0 _ hg) h2
  · exact hs _ (hr.2.1 h0 _ hg) (h3 k hk.symm)
section
variable {R R' : Nat → Prop} {N p : Nat} {s : DS} {w : World}
theorem Append_W {v2 : Value} {M : Nat} {cs : List Int} {E : Int} (h : DkR R N w p s) (hr : RdR R' M w v2 cs) (hs : ∀ k, R' k → R k → False) (hN : N + cs.length ≤ 1000000) (hE : dErr s = E) :
    Calls Try.prog 21 #[.pointer (some ⟨p, 0, none⟩), v2] w fun e w' => e = .returned (.int .i64 E) ∧ DkR (fun k => R k ∨ New w w' k) (N + cs.length) w' p (dAppend s cs) ∧ Mod R w w' := by
  subst hE
  exact Append_R h (⟨hr.1, hr.2.1, Nat.le_refl _⟩ : RdR R' cs.length w v2 cs) hs hN
theorem Sync_W {E : Int} (h : DkR R N w p s) (hE : dErr s = E) : Calls Try.prog 37 #[.pointer (some ⟨p, 0, none⟩)] w fun e w' => e = .returned (.int .i64 E) ∧ DkR R N w' p (dSync s) ∧ Mod R w w' := by
  subst hE; exact Sync_R h
end
/-- what a put leaves: the disk's new blocks lie ahead of the log's -/
def PutTo (R1 R2 : Nat → Prop) (N : Nat) (w w' : World) (x p : Nat) (rs : List (List Int)) (s : DS) : Prop :=
  ∃ wm : World, w.heap.size ≤ wm.heap.size ∧ wm.heap.size ≤ w'.heap.size ∧ DkR (fun k => R2 k ∨ (w.heap.size ≤ k ∧ k < wm.heap.size)) N w' p s ∧ WlR (fun k => R1 k ∨ (wm.heap.size ≤ k ∧ k < w'.heap.size)) w' x p rs ∧ Mod (fun k => R1 k ∨ R2 k) w w'
theorem dErr_dead {s : DS} (h : (dStep s).dead = true) : dErr s = 9 := by unfold dErr; rw [if_pos h]
theorem dErr_live {s : DS} (h : (dStep s).dead = false) : dErr s = 0 := by unfold dErr; rw [if_neg (by rw [h]; decide)]
end Go.Proofs.Ythojipjleajajaa
