/- Texts that are built one behind the other: XCode1, XCode4, XKeep2, XCodeW, XPlain1, XReg, XLift, XFits, XIdx, XArith, XQ2, XQ4, XQ5, XS, XSha1, XSha2, XSha3, XSha4, XActs, XRef1, XLoc, XPlain2, XOwV, XNums, XSha5, XWc, XCm1, XCm2, XSet0, XTy, XPt1, XGp, XRead2, XRead3, XRead4, XRead5, XSeg, XGl, XJoin, XQ3, XCut1, XGt1, XGt2, XZr. No condition. -/
import Derived.Test.YtpnikilkcifncaaMun1
import Derived.Deep.DeepMust
import Derived.Laws.CopyOwn
import Derived.OpenShut
import Derived.ProofKit
import Derived.ChangeOld
import Derived.Deep.Slices
import Derived.Laws.Small
import Derived.IntWalk
import Derived.Deep.Cut
import Derived.Deep.RegionHeld3
import Derived.Lib.ConvBytes
set_option maxRecDepth 100000
set_option linter.unusedVariables false
/- code.Writer: what each of its methods does to the bytes written. -/
namespace Go.Proofs.Ytpnikilkcifncaa
open Go Go.RowKit Go.Gv

/-- seven binary digits a byte, the lowest first -/
def encN (n : Nat) : List Int := if n < 128 then [(n : Int)] else ((n : Int) % 128 + 128) :: encN (n / 128)
termination_by n
decreasing_by omega

theorem encN_lt {n : Nat} (h : n < 128) : encN n = [(n : Int)] := by rw [encN, if_pos h]
theorem encN_ge {n : Nat} (h : 128 ≤ n) : encN n = ((n : Int) % 128 + 128) :: encN (n / 128) := by rw [encN, if_neg (by omega)]
theorem encN_len (k : Nat) : ∀ n, n < 128 ^ (k + 1) → 1 ≤ (encN n).length ∧ (encN n).length ≤ k + 1 := by
  induction k with
  | zero => intro n hn; rw [encN_lt (by omega)]; simp
  | succ k ih =>
    intro n hn
    by_cases h : n < 128
    · rw [encN_lt h]; simp
    · rw [encN_ge (by omega)]
      have := ih (n / 128) (by rw [Nat.pow_succ] at hn; omega)
      simp only [List.length_cons]; omega
theorem encN_pos (n : Nat) : 1 ≤ (encN n).length := by
  by_cases h : n < 128
  · rw [encN_lt h]; simp
  · rw [encN_ge (by omega)]; simp
theorem encN_len10 {n : Nat} (h : n < U64) : 1 ≤ (encN n).length ∧ (encN n).length ≤ 10 :=
  encN_len 9 n (Nat.lt_of_lt_of_le h (by unfold U64; decide))

theorem or128 (m : Nat) : bits .or .u8 ((m : Int) % 256) 128 = (m : Int) % 128 + 128 := by
  have e : ((m : Int) % 256) = ((m % 256 : Nat) : Int) := by omega
  have h := u8_or_nat (m % 256) 128 (by omega) (by omega)
  rw [e]
  refine h.trans ?_
  have d : ∀ x, x < 256 → x ||| 128 = x % 128 + 128 := by decide
  rw [d _ (by omega), Nat.mod_mod_of_dvd _ (by decide)]; omega

def Wr (w : World) (b : Nat) (v : Value) (bs : List Int) : Prop := Cs w b #[v] 165 ∧ OwnB w v bs
def WrTo (w : World) (b : Nat) (v : Value) (bs : List Int) (w' : World) : Prop :=
  ∃ v', Wr w' b v' bs ∧ Mod (fun k => k = b ∨ some k = v.ownBlock) w w' ∧ (v'.ownBlock = v.ownBlock ∨ ∃ k, v'.ownBlock = some k ∧ w.heap.size ≤ k)

theorem Wr.mod {S : Nat → Prop} {w w' : World} {b : Nat} {v : Value} {bs : List Int} (h : Wr w b v bs) (hm : Mod S w w') (hb : ¬ S b) (hv : ∀ g, v.ownBlock = some g → ¬ S g) : Wr w' b v bs :=
  ⟨h.1.mod hm hb, OwnB.mod h.2 hm hv⟩
theorem WrTo.refl {w : World} {b : Nat} {v : Value} {bs : List Int} (h : Wr w b v bs) : WrTo w b v bs w := ⟨v, h, Mod.refl _ _, .inl rfl⟩

theorem WrTo.trans {w w1 w2 : World} {b : Nat} {v v1 : Value} {bs2 : List Int} (hm : Mod (fun k => k = b ∨ some k = v.ownBlock) w w1)
    (hf : v1.ownBlock = v.ownBlock ∨ ∃ k, v1.ownBlock = some k ∧ w.heap.size ≤ k) (h : WrTo w1 b v1 bs2 w2) : WrTo w b v bs2 w2 := by
  obtain ⟨v', h1, h2, h3⟩ := h
  refine ⟨v', h1, hm.trans h2 ?_, ?_⟩
  · intro i hi hS
    rcases hS with hS | hS
    · exact .inl hS
    · rcases hf with hf | ⟨k, hf, hk⟩
      · exact .inr (hS.trans hf)
      · rw [hf] at hS; simp at hS; omega
  · rcases h3 with h3 | ⟨k, h3, hk⟩
    · rw [h3]; exact hf
    · exact .inr ⟨k, h3, Nat.le_trans hm.size hk⟩

/-- the store of what an append gave into the writer -/
theorem Wr_step {w w1 : World} {b : Nat} {v : Value} {bs : List Int} {v1 : Value} (hW : Wr w b v bs) (wx : World) (hx : Mod (fun _ => False) w wx) (new : List Int)
    (h : AppB wx v (bs ++ new) v1 w1) (hv : v.ownBlock ≠ some b) :
    w1.cell? ⟨b, 0, none⟩ = some v ∧ w1.frozen? ⟨b, 0, none⟩ = false ∧ WrTo w b v (bs ++ new) (w1.setCell ⟨b, 0, none⟩ v1) := by
  obtain ⟨hc, ho⟩ := hW
  obtain ⟨h1, h2, h3⟩ := h
  have hb : ¬ (some b = v.ownBlock) := fun e => hv e.symm
  have hc1 : Cs w1 b #[v] 165 := (hc.mod hx id).mod h2 hb
  refine ⟨by rw [hc1.cell]; rfl, hc1.frozen 0, v1, ⟨hc1.set 0 v1, ?_⟩, ?_, ?_⟩
  · refine Own.other h1 ?_ _
    intro g hg e
    subst e
    rcases h3 with h3 | ⟨k, h3, hk⟩
    · rw [h3] at hg; exact hv hg
    · rw [h3] at hg; simp at hg; subst hg; have := hc.lt; have := hx.size; omega
  · exact ((hx.mono (fun _ _ h => h.elim)).trans h2 (fun i _ h => .inr h)).setCell (fun _ => .inl rfl) _
  · rcases h3 with h3 | ⟨k, h3, hk⟩
    · exact .inl h3
    · exact .inr ⟨k, h3, Nat.le_trans hx.size hk⟩

theorem Wr_ne {w : World} {b : Nat} {v : Value} {bs : List Int} (hW : Wr w b v bs) : v.ownBlock ≠ some b := by
  obtain ⟨hc, _, _, ⟨rfl, _⟩ | ⟨g, cap, cur, rfl, hg, _⟩⟩ := hW
  · simp [Value.ownBlock]
  · simp only [Value.ownBlock, ne_eq, Option.some.injEq]
    intro e
    subst e
    unfold Cs at hc hg
    rw [hc] at hg
    simp at hg

theorem Num_any (b n : Nat) (v : Value) (bs : List Int) (w : World) (hW : Wr w b v bs) (hn : n < U64) (hl : bs.length + 10 ≤ Room) :
    Calls Try.prog 75 #[.pointer (some ⟨b, 0, none⟩), .int .u64 n] w fun e w' => e = .returned (.pointer (some ⟨b, 0, none⟩)) ∧ WrTo w b v (bs ++ encN n) w' := by
  have hen := encN_len10 hn
  clear hn
  go_enter Try.func75, Try.ntmps75
  go_wp2
  go_loopw [1] (fun t wr => ∃ (m : Nat) (bs' : List Int), t = .int .u64 m ∧ m ≤ n ∧ bs' ++ encN m = bs ++ encN n ∧ WrTo w b v bs' wr) (fun t _ => (intOf t).toNat)
  case atStart => exact ⟨n, bs, rfl, Nat.le_refl _, rfl, .refl hW⟩
  case round =>
    obtain ⟨m, bs', rfl, hm, hbs, v', hW', hmod, hfr⟩ := hrel
    have hlen : bs'.length + (encN m).length = bs.length + (encN n).length := by have := congrArg List.length hbs; simpa using this
    have hcell : wr.cell? ⟨b, 0, none⟩ = some v' := (hW'.1.cell 0).trans rfl
    have hlt := hW'.1.lt
    have hpos := encN_pos m
    have hroom : bs'.length + 1 ≤ Room := by omega
    have Hne := Lib.hid (Wr_ne hW')
    have Hbs := Lib.hid hbs
    have Hfr := Lib.hid hfr
    have Hm := Lib.hid hmod
    have Hr := Lib.hid hroom
    clear hbs hfr hmod hlen hl hen hroom hpos
    by_cases h128 : (128 : Int) ≤ m
    · have hor := or128 m
      go_wp2_with (at_builtin; refine wpList_appB rfl (.tmp 11) (.tmp 15) rfl rfl (hW'.2.alloc _) (new := [(m : Int) % 128 + 128]) rfl (RdB_one _ (by omega) (by omega) _) Hr.out ?_)
      intro ao cap w1 happ
      obtain ⟨hc1, hf1, hWT⟩ := Wr_step hW' _ ((Mod.refl _ _).alloc _) [(m : Int) % 128 + 128] happ Hne.out
      have HWT := Lib.hid hWT
      clear hWT happ hor
      go_wp2
      go_roundw
      case rel => exact ⟨m / 128, _, by go_num, by omega, by have := Hbs.out; rw [encN_ge (by omega)] at this; simpa using this, WrTo.trans Hm.out Hfr.out HWT.out⟩
      case measure => simp [intOf]; omega
    · go_wp2_with (at_builtin; refine wpList_appB rfl (.tmp 25) (.tmp 28) rfl rfl (hW'.2.alloc _) (new := [(m : Int)]) rfl (RdB_one _ (by omega) (by omega) _) Hr.out ?_)
      intro ao cap w1 happ
      obtain ⟨hc1, hf1, hWT⟩ := Wr_step hW' _ ((Mod.refl _ _).alloc _) [(m : Int)] happ Hne.out
      have HWT := Lib.hid hWT
      clear hWT happ
      go_wp2
      go_ret
      refine ⟨rfl, ?_⟩
      have hb := Hbs.out
      rw [encN_lt (by omega)] at hb
      rw [← hb]
      exact WrTo.trans Hm.out Hfr.out HWT.out

/-- a number from 0 on -/
def encI (n : Int) : List Int := encN (max 0 n).toNat

theorem WInt_any (b : Nat) (n : Int) (v : Value) (bs : List Int) (w : World) (hW : Wr w b v bs) (hn : -9223372036854775808 ≤ n ∧ n ≤ 9223372036854775807) (hl : bs.length + 10 ≤ Room) :
    Calls Try.prog 52 #[.pointer (some ⟨b, 0, none⟩), .int .i64 n] w fun e w' => e = .returned (.pointer (some ⟨b, 0, none⟩)) ∧ WrTo w b v (bs ++ encI n) w' := by
  have hU : (max 0 n).toNat < U64 := by unfold U64; omega
  have key := Num_any b (max 0 n).toNat v bs w hW hU hl
  have Hl := Lib.hid hl
  clear hU hl key
  by_cases h0 : 0 < n
  · obtain ⟨k, rfl⟩ := Int.eq_ofNat_of_zero_le (Int.le_of_lt h0)
    have ek : (max 0 (k : Int)).toNat = k := by omega
    unfold encI
    rw [ek]
    clear ek
    go_enter Try.func52, Try.ntmps52
    go_wp2_with (go_at_call 75; go_must (refine (Num_any b k v bs _ hW (by unfold U64; omega) Hl.out).mono ?_); rintro e w' ⟨rfl, hWT⟩; have HW := Lib.hid hWT; clear hWT)
    go_ret
    exact ⟨rfl, HW.out⟩
  · have ek : (max 0 n).toNat = 0 := by omega
    unfold encI
    rw [ek]
    clear ek
    go_enter Try.func52, Try.ntmps52
    go_wp2_with (go_at_call 75; go_must (refine (Num_any b 0 v bs _ hW (by unfold U64; omega) Hl.out).mono ?_); rintro e w' ⟨rfl, hWT⟩; have HW := Lib.hid hWT; clear hWT)
    go_ret
    exact ⟨rfl, HW.out⟩

theorem encI_nat (n : Nat) : encI n = encN n := by unfold encI; congr 1

theorem NewWriter_any (w : World) :
    Calls Try.prog 51 #[] w fun e w' => e = .returned (.pointer (some ⟨w.heap.size, 0, none⟩)) ∧ Wr w' w.heap.size (.slice none 0 0) [] ∧ Mod (fun _ => False) w w' := by
  go_enter Try.func51, Try.ntmps51
  go_wp2
  go_ret
  exact ⟨rfl, ⟨Cs.new _ _ _, OwnB.nil _⟩, (Mod.refl _ _).alloc _⟩

/-- the bytes written, in new memory -/
theorem WBytes_any (b : Nat) (v : Value) (bs : List Int) (w : World) (hW : Wr w b v bs) (hl : bs.length ≤ Room) :
    Calls Try.prog 54 #[.pointer (some ⟨b, 0, none⟩)] w fun e w' => ∃ ao cap, e = .returned (.slice ao bs.length cap) ∧ OwnB w' (.slice ao bs.length cap) bs ∧ Fresh w (.slice ao bs.length cap) ∧ Mod (fun _ => False) w w' := by
  have hcell : w.cell? ⟨b, 0, none⟩ = some v := (hW.1.cell 0).trans rfl
  have Hl := Lib.hid (show ([] : List Int).length + bs.length ≤ Room by simpa using hl)
  clear hl
  go_enter Try.func54, Try.ntmps54
  go_wp2_with (at_builtin; refine wpList_appB rfl (.const (.slice none 0 0)) (.tmp 6) rfl rfl (OwnB.nil _) (new := bs) rfl hW.2.rd Hl.out ?_)
  intro ao cap w1 happ
  have HA := Lib.hid happ
  clear happ
  go_wp2
  go_ret
  obtain ⟨h1, h2, h3⟩ := HA.out
  simp only [List.length_nil, Nat.zero_add] at *
  refine ⟨ao, cap, rfl, h1, ?_, h2.mono (fun k _ hk => by simp [Value.ownBlock] at hk)⟩
  intro g hg
  rcases h3 with h3 | ⟨k, h3, hk⟩
  · rw [h3] at hg; cases hg
  · rw [h3] at hg; simp at hg; omega

theorem WRow_any (b : Nat) (v : Value) (bs : List Int) (ao : Option Addr) (cap : Nat) (cs : List Int) (w : World) (hW : Wr w b v bs) (hr : RdB w (.slice ao cs.length cap) cs)
    (hs : Apart (.slice ao cs.length cap) cs.length (fun k => k = b ∨ some k = v.ownBlock)) (hl : bs.length + cs.length + 10 ≤ Room) :
    Calls Try.prog 67 #[.pointer (some ⟨b, 0, none⟩), .slice ao cs.length cap] w fun e w' => e = .returned (.pointer (some ⟨b, 0, none⟩)) ∧ WrTo w b v (bs ++ (encN cs.length ++ cs)) w' := by
  have hR : cs.length < 9223372036854775807 := by unfold Room at hl; omega
  have HR := Lib.hid hR
  have h10 := encN_len10 (n := cs.length) (by unfold U64; omega)
  have Hl := Lib.hid (show (bs ++ encN cs.length).length + cs.length ≤ Room by simp; omega)
  have Hl2 := Lib.hid (show bs.length + 10 ≤ Room by omega)
  have Hs := Lib.hid hs
  clear hs hl hR h10
  go_enter Try.func67, Try.ntmps67
  go_wp2_with (first
    | (go_at_call 52; go_must (refine (WInt_any b cs.length v bs _ hW (by have := HR.out; omega) Hl2.out).mono ?_); rintro e w1 ⟨rfl, v1, hW1, hm1, hf1⟩; have hcell : w1.cell? ⟨b, 0, none⟩ = some v1 := (hW1.1.cell 0).trans rfl; rw [encI_nat] at hW1; have hr1 : RdB w1 (.slice ao cs.length cap) cs := hr.mod hm1 Hs.out; have HM1 := Lib.hid hm1; have HF1 := Lib.hid hf1; clear hm1 hf1)
    | (at_builtin; go_must (refine wpList_appB rfl (.tmp 13) (.tmp 14) rfl rfl hW1.2 (new := cs) rfl hr1 Hl.out ?_)))
  intro ao1 cap1 w2 happ
  rw [← List.append_assoc] at happ
  obtain ⟨hc1, hf1, hWT⟩ := Wr_step hW1 w1 (Mod.refl _ _) cs happ (Wr_ne hW1)
  have HWT := Lib.hid hWT
  clear hWT happ hr1 hr hW1 hW
  go_wp2
  go_ret
  refine ⟨rfl, ?_⟩
  rw [← List.append_assoc]
  exact WrTo.trans HM1.out HF1.out HWT.out
end Go.Proofs.Ytpnikilkcifncaa

/- code.Writer.Hash: 32 bytes behind what is written. -/
namespace Go.Proofs.Ytpnikilkcifncaa
open Go Go.RowKit Go.Gv

theorem WHash_any (b : Nat) (v : Value) (bs h : List Int) (w : World) (hW : Wr w b v bs) (hh : h.length = 32) (hB : Bytes h) (hl : bs.length + 32 ≤ Room) :
    Calls Try.prog 69 #[.pointer (some ⟨b, 0, none⟩), hv h] w fun e w' => e = .returned (.pointer (some ⟨b, 0, none⟩)) ∧ WrTo w b v (bs ++ h) w' := by
  have hlt := hW.1.lt
  obtain ⟨w1, e1, hW1, hc1, hm1⟩ : ∃ w1, w.alloc (.cells (h.map bv).toArray 32) = w1 ∧ Wr w1 b v bs ∧ Cs w1 w.heap.size (h.map bv).toArray 32 ∧ Mod (fun _ => False) w w1 :=
    ⟨_, rfl, hW.mod ((Mod.refl _ _).alloc _) id (fun _ _ => id), Cs.new _ _ _, (Mod.refl _ _).alloc _⟩
  have hcell : w1.cell? ⟨b, 0, none⟩ = some v := (hW1.1.cell 0).trans rfl
  have hrd : RdB w1 (.slice (some ⟨w.heap.size, 0, none⟩) 32 32) h := ⟨hB, by
    rw [hh]
    exact Rd.mk (Nat.le_refl _) (by rw [maxLen_val]; omega) (by simp [hh]) (fun j u hu => by rw [Nat.zero_add, hc1.cell]; simpa using hu)⟩
  have Hroom := Lib.hid (show bs.length + h.length ≤ Room by omega)
  have HW1 := Lib.hid hW1
  have HRD := Lib.hid hrd
  have HM1 := Lib.hid hm1
  have E1 := Lib.hid e1
  have HH := Lib.hid hh
  clear hW hc1 hrd hm1 hh hB hl e1 hW1
  unfold hv
  go_enter Try.func69, Try.ntmps69
  go_wp2_with fail
  rw [E1.out]
  go_region_law (refine step_appB rfl (.tmp 9) (.tmp 10) rfl rfl (OwnB.drew HW1.out.2) (new := h) rfl HRD.out.drew Hroom.out ?_; intro ao cap w2 happ; obtain ⟨hc2, hf2, hWT⟩ := Wr_step HW1.out _ ((Mod.refl _ _).drew) h happ (Wr_ne HW1.out); have HWT := Lib.hid hWT; clear hWT happ)
  go_wp2
  go_ret
  refine ⟨rfl, ?_⟩
  exact WrTo.trans (HM1.out.mono (fun _ _ h => h.elim)) (.inl rfl) HWT.out
end Go.Proofs.Ytpnikilkcifncaa

/- Package gavelkeep: bytes that are lent, that are intact, that are spoilt. -/
namespace Go.Proofs.Ytpnikilkcifncaa
open Go Go.RowKit Go.Gv

def lendc (bs : List Int) (k : Nat) : List Int := bs ++ (List.replicate k 85 ++ List.replicate (3 - k) 0)
/-- bytes that are lent: three more lie behind them -/
def Lent (w : World) (v : Value) (bs : List Int) : Prop := ∃ g, v = .slice (some ⟨g, 0, none⟩) bs.length (bs.length + 3) ∧ Cs w g ((lendc bs 3).map bv).toArray 5

end Go.Proofs.Ytpnikilkcifncaa

/- gavellaw01: the document's own example. -/
namespace Go.Proofs.Ytpnikilkcifncaa
open Go Go.RowKit Go.Gv

end Go.Proofs.Ytpnikilkcifncaa

/- The plain law of numbers and rows as bytes: what is written is read. -/
namespace Go.Proofs.Ytpnikilkcifncaa
open Go Go.RowKit Go.Gv

theorem pow128 (i : Nat) : 2 ^ (7 * (i + 1)) = 128 * 2 ^ (7 * i) := by rw [Nat.mul_add, Nat.pow_add, Nat.mul_comm]

theorem dec_enc (rest : List Int) : ∀ (m i acc : Nat), (i = 0 ∨ 1 ≤ m) → m * 2 ^ (7 * i) < U64 → i ≤ 9 → decGo i acc (encN m ++ rest) = some (acc + m * 2 ^ (7 * i), rest) := by
  intro m
  induction m using Nat.strongRecOn with
  | _ m ih =>
    intro i acc h1 h2 h3
    by_cases hm : m < 128
    · rw [encN_lt hm]
      simp only [List.cons_append, List.nil_append, decGo]
      have n1 : ¬ (i = 9 ∧ (1 : Int) < m) := by
        rintro ⟨rfl, h⟩
        unfold U64 at h2
        simp only [Nat.reduceMul, Nat.reducePow] at h2
        omega
      rw [if_neg n1, if_pos (by omega), if_neg (by omega)]
      simp
    · rw [encN_ge (by omega)]
      simp only [List.cons_append, decGo]
      have hp := pow128 i
      have hle : 128 * 2 ^ (7 * i) ≤ m * 2 ^ (7 * i) := Nat.mul_le_mul_right _ (by omega)
      have hi : i ≤ 8 := by
        rcases Nat.lt_or_ge i 9 with h | h
        · omega
        · obtain rfl : i = 9 := by omega
          unfold U64 at h2
          simp only [Nat.reduceMul, Nat.reducePow] at h2 hle
          omega
      have hdm : (m / 128) * 2 ^ (7 * (i + 1)) + (m % 128) * 2 ^ (7 * i) = m * 2 ^ (7 * i) := by
        rw [hp, ← Nat.mul_assoc, ← Nat.add_mul]
        congr 1
        omega
      rw [if_neg (by omega), if_neg (by omega)]
      have e : ((m : Int) % 128 + 128).toNat - 128 = m % 128 := by omega
      rw [e, ih (m / 128) (by omega) (i + 1) _ (.inr (by omega)) (by omega) (by omega)]
      congr 2
      omega

theorem rNum_enc {m : Nat} (hm : m < U64) (rest : List Int) : rNum (some (encN m ++ rest)) = (m, some rest) := by
  have := dec_enc rest m 0 0 (.inl rfl) (by simpa using hm) (by omega)
  simp [rNum, this]
theorem rInt_enc {m : Nat} (hm : m < U64) (most : Int) (rest : List Int) : rInt most (some (encN m ++ rest)) = if most < m then (0, none) else (m, some rest) := by
  simp only [rInt, rNum_enc hm, Option.isNone_some, Bool.false_eq_true, false_or]
  by_cases h : most < m
  · rw [if_pos (.inr h), if_pos h]
  · rw [if_neg (by omega), if_neg h]
theorem rTake_app {n : Nat} {a : List Int} (h : a.length = n) (rest : List Int) : rTake n (some (a ++ rest)) = (a, some rest) := by
  subst h
  simp [rTake]
theorem rRow_enc {bs : List Int} (hb : bs.length < U64) (most : Int) (rest : List Int) : rRow most (some (encN bs.length ++ (bs ++ rest))) = if most < bs.length then ([], none) else (bs, some rest) := by
  simp only [rRow, rInt_enc hb]
  by_cases h : most < bs.length
  · rw [if_pos h, if_pos h]; rfl
  · rw [if_neg h, if_neg h]; exact rTake_app rfl rest
theorem rHash_app {h : List Int} (hh : h.length = 32) (rest : List Int) : rHash (some (h ++ rest)) = (h, some rest) := by
  simp only [rHash, rTake_app hh]
@[simp] theorem rNum_none' : rNum none = (0, none) := rfl
@[simp] theorem rInt_none (most : Int) : rInt most none = (0, none) := by simp [rInt]
@[simp] theorem rTake_none (n : Nat) : rTake n none = ([], none) := rfl
@[simp] theorem rRow_none (most : Int) : rRow most none = ([], none) := by simp [rRow]
@[simp] theorem rHash_none : rHash none = (List.replicate 32 0, none) := rfl
end Go.Proofs.Ytpnikilkcifncaa

/- The contracts once more, each object with the blocks in which it lives (R): so that what one call does to one object leaves the others. -/
namespace Go.Proofs.Ytpnikilkcifncaa
open Go Go.RowKit Go.Gv

/-- a list of bytes (at most N) that is only read; its block, where it has one that matters, is in R -/
def RdR (R : Nat → Prop) (N : Nat) (w : World) (v : Value) (bs : List Int) : Prop := RdB w v bs ∧ (0 < bs.length → ∀ g, v.ownBlock = some g → R g) ∧ bs.length ≤ N
/-- a list of bytes that may be appended to, spoilt -/
def OwR (R : Nat → Prop) (N : Nat) (w : World) (v : Value) (bs : List Int) : Prop := OwnB w v bs ∧ (∀ g, v.ownBlock = some g → R g) ∧ bs.length ≤ N
def WrR (R : Nat → Prop) (N : Nat) (w : World) (b : Nat) (bs : List Int) : Prop := ∃ v, Wr w b v bs ∧ R b ∧ (∀ g, v.ownBlock = some g → R g) ∧ bs.length ≤ N
def RrR (T : TypeId) (R : Nat → Prop) (w : World) (r : Nat) (s : RSt) : Prop := ∃ v, Rr T w r v s ∧ R r ∧ (0 < (s.getD []).length → ∀ g, v.ownBlock = some g → R g)

section
variable {R R' S : Nat → Prop} {N M : Nat} {w w' : World} {v : Value} {bs : List Int} {b r : Nat} {s : RSt} {T : TypeId}
theorem RdR.mod (h : RdR R N w v bs) (hm : Mod S w w') (hs : ∀ k, R k → S k → False) : RdR R N w' v bs := ⟨h.1.mod hm (fun h0 g hg hS => hs g (h.2.1 h0 g hg) hS), h.2⟩
theorem RdR.widen (h : RdR R N w v bs) (hs : ∀ k, R k → R' k) (hM : N ≤ M) : RdR R' M w v bs := ⟨h.1, fun h0 g hg => hs g (h.2.1 h0 g hg), Nat.le_trans h.2.2 hM⟩
theorem OwR.mod (h : OwR R N w v bs) (hm : Mod S w w') (hs : ∀ k, R k → S k → False) : OwR R N w' v bs := ⟨OwnB.mod h.1 hm (fun g hg hS => hs g (h.2.1 g hg) hS), h.2⟩
theorem OwR.widen (h : OwR R N w v bs) (hs : ∀ k, R k → R' k) (hM : N ≤ M) : OwR R' M w v bs := ⟨h.1, fun g hg => hs g (h.2.1 g hg), Nat.le_trans h.2.2 hM⟩
theorem OwR.rd (h : OwR R N w v bs) : RdR R N w v bs := ⟨h.1.rd, fun _ => h.2.1, h.2.2⟩
theorem WrR.mod (h : WrR R N w b bs) (hm : Mod S w w') (hs : ∀ k, R k → S k → False) : WrR R N w' b bs := by
  obtain ⟨v, h1, h2, h3, h4⟩ := h
  exact ⟨v, h1.mod hm (hs b h2) (fun g hg => hs g (h3 g hg)), h2, h3, h4⟩
theorem WrR.widen (h : WrR R N w b bs) (hs : ∀ k, R k → R' k) (hM : N ≤ M) : WrR R' M w b bs := by
  obtain ⟨v, h1, h2, h3, h4⟩ := h
  exact ⟨v, h1, hs b h2, fun g hg => hs g (h3 g hg), Nat.le_trans h4 hM⟩
theorem RrR.mod (h : RrR T R w r s) (hm : Mod S w w') (hs : ∀ k, R k → S k → False) : RrR T R w' r s := by
  obtain ⟨v, h1, h2, h3⟩ := h
  exact ⟨v, h1.mod hm (hs r h2) (fun h0 g hg => hs g (h3 h0 g hg)), h2, h3⟩
theorem RrR.widen (h : RrR T R w r s) (hs : ∀ k, R k → R' k) : RrR T R' w r s := by
  obtain ⟨v, h1, h2, h3⟩ := h
  exact ⟨v, h1, hs r h2, fun h0 g hg => hs g (h3 h0 g hg)⟩
theorem RdR.len {ao : Option Addr} {n cap : Nat} (h : RdR R N w (.slice ao n cap) bs) : n = bs.length := h.1.len.1
theorem RdR.shape (h : RdR R N w v bs) : ∃ ao cap, v = .slice ao bs.length cap := by obtain ⟨ao, cap, e, _⟩ := h.1.shape; exact ⟨ao, cap, e⟩
theorem OwR.shape (h : OwR R N w v bs) : ∃ ao cap, v = .slice ao bs.length cap := h.rd.shape
end

/-- what is new in w' -/
abbrev New (w w' : World) (k : Nat) : Prop := w.heap.size ≤ k ∧ k < w'.heap.size

theorem OwR_of {w w' : World} {v : Value} {bs : List Int} (N : Nat) (h : OwnB w' v bs) (hf : Fresh w v) (hN : bs.length ≤ N) : OwR (New w w') N w' v bs := ⟨h, fun g hg => ⟨hf g hg, Own.lt h hg⟩, hN⟩

theorem Same_R {R R' : Nat → Prop} {N N' : Nat} {va vb : Value} {a b : List Int} {w : World} (ha : RdR R N w va a) (hb : RdR R' N' w vb b) :
    Calls Try.prog 31 #[va, vb] w fun e w' => e = .returned (.bool (decide (a = b))) ∧ Mod (fun _ => False) w w' :=
  (Same_any va vb a b w ha.1 hb.1).mono fun _ _ ⟨he, hd⟩ => ⟨he, mod_of_drewN hd _⟩
theorem NewWriter_R (w : World) :
    Calls Try.prog 51 #[] w fun e w' => ∃ b, e = .returned (.pointer (some ⟨b, 0, none⟩)) ∧ WrR (New w w') 0 w' b [] ∧ Mod (fun _ => False) w w' :=
  (NewWriter_any w).mono fun _ _ ⟨he, hW, hm⟩ => ⟨_, he, ⟨_, hW, ⟨Nat.le_refl _, hW.1.lt⟩, (fun g hg => by cases hg), Nat.le_refl _⟩, hm⟩
theorem WrTo_R {R : Nat → Prop} {w w' : World} {b : Nat} {v : Value} {bs : List Int} (N : Nat) (hb : R b) (hv : ∀ g, v.ownBlock = some g → R g) (h : WrTo w b v bs w') (hN : bs.length ≤ N) :
    WrR (fun k => R k ∨ New w w' k) N w' b bs ∧ Mod R w w' := by
  obtain ⟨v', h1, h2, h3⟩ := h
  refine ⟨⟨v', h1, .inl hb, fun g hg => ?_, hN⟩, h2.mono (fun k _ hk => ?_)⟩
  · rcases h3 with h3 | ⟨k, h3, hk⟩
    · exact .inl (hv g (h3 ▸ hg))
    · rw [h3] at hg
      obtain rfl : k = g := by simpa using hg
      exact .inr ⟨hk, Own.lt h1.2 h3⟩
  · rcases hk with rfl | hk
    · exact hb
    · exact hv k hk.symm
theorem WBytes_R {R : Nat → Prop} {N b : Nat} {bs : List Int} {w : World} (hW : WrR R N w b bs) (hl : N ≤ 1000000) :
    Calls Try.prog 54 #[.pointer (some ⟨b, 0, none⟩)] w fun e w' => ∃ v', e = .returned v' ∧ OwR (New w w') N w' v' bs ∧ Mod (fun _ => False) w w' := by
  obtain ⟨v, h1, h2, h3, h4⟩ := hW
  exact (WBytes_any b v bs w h1 (by unfold Room; omega)).mono fun e w' ⟨ao', cap', he, ho, hf, hm⟩ => ⟨_, he, OwR_of N ho hf h4, hm⟩
theorem NewReader_R {R : Nat → Prop} {N : Nat} {v : Value} {bs : List Int} {w : World} (hr : RdR R N w v bs) (hl : N ≤ 1000000) :
    Calls Try.prog 61 #[v] w fun e w' => ∃ r, e = .returned (.pointer (some ⟨r, 0, none⟩)) ∧ RrR 183 (New w w') w' r (some bs) ∧ Mod (fun _ => False) w w' :=
  (NewReader_any v bs w hr.1 (by have := hr.2.2; unfold Room; omega)).mono fun _ w' ⟨r, v', he, h1, h2, h3, hm⟩ => ⟨r, he, ⟨v', h2, ⟨h1, h2.1.lt⟩, fun h0 g hg => ⟨h3 h0 g hg, h2.2.1.block_lt h0 g hg⟩⟩, hm⟩
theorem RrTo_R {T : TypeId} {R : Nat → Prop} {w w' : World} {r : Nat} {v : Value} {s s' : RSt} (hr : R r) (hv : 0 < (s.getD []).length → ∀ g, v.ownBlock = some g → R g) (hl : (s'.getD []).length ≤ (s.getD []).length) (h : RrTo T w r v s' w') :
    RrR T R w' r s' ∧ Mod R w w' := by
  obtain ⟨v', h1, h2, h3⟩ := h
  exact ⟨⟨v', h1, hr, fun h0 g hg => hv (by omega) g (by rw [← h3 h0]; exact hg)⟩, h2.mono (fun k _ hk => by subst hk; exact hr)⟩
theorem RInt_R {R : Nat → Prop} {r : Nat} {most : Int} {s : RSt} {w : World} (hR : RrR 183 R w r s) (hm : -9223372036854775808 ≤ most ∧ most ≤ 9223372036854775807) :
    Calls Try.prog 63 #[.pointer (some ⟨r, 0, none⟩), .int .i64 most] w fun e w' => e = .returned (.int .i64 ((rInt most s).1 : Nat)) ∧ RrR 183 R w' r (rInt most s).2 ∧ Mod R w w' := by
  obtain ⟨v, h1, h2, h3⟩ := hR
  exact (RInt_any r most v s w h1 hm).mono fun _ _ ⟨he, h⟩ => ⟨he, RrTo_R h2 h3 (rInt_len most s) h⟩
theorem OK_R {R : Nat → Prop} {r : Nat} {s : RSt} {w : World} (hR : RrR 183 R w r s) :
    Calls Try.prog 64 #[.pointer (some ⟨r, 0, none⟩)] w fun e w' => e = .returned (.bool s.isSome) ∧ w = w' := by
  obtain ⟨v, h1, h2, h3⟩ := hR
  exact OK_any r v s w h1
theorem hv_guard2 (op : BinOp) (x y : Operand) (a b : List Int) (w : World) : (eqGuard op 32 x y (hv a) (hv b)).run Try.prog w = .ok () w :=
  run_eqGuard_agg (P := Try.prog) w op 32 x y _ _ (by kernel_rfl)
theorem hv_eql {a b : List Int} (ha : a.length = 32) (hb : b.length = 32) (w : World) : (binOp .eql 32 (hv a) (hv b)).run Try.prog w = .ok (.bool (decide (a = b))) w :=
  run_eql_ints w 32 5 32 Try.underlying32 Try.underlying5 (by kernel_rfl) a b ha hb
end Go.Proofs.Ytpnikilkcifncaa

/- From a reading of the arguments to what the walks take: numbers, slices of bytes. -/
namespace Go.Proofs.Ytpnikilkcifncaa
open Go Go.RowKit Go.Gv Go.ChangeShapes Go.WideShapes Go.ChangeAt

theorem u64_nat {a : Int} (h : (Lit.int .u64 a).wf = true) : ∃ n : Nat, a = n ∧ n < U64 := by
  have := bounds_u64 h
  exact ⟨a.toNat, by omega, by unfold U64; omega⟩
theorem i64_bd {a : Int} (h : (Lit.int .i64 a).wf = true) : -9223372036854775808 ≤ a ∧ a ≤ 9223372036854775807 := bounds_i64 h

end Go.Proofs.Ytpnikilkcifncaa

/- From readings of arguments to typed lists: slices of structs, arrays of bytes. -/
namespace Go.Proofs.Ytpnikilkcifncaa
open Go Go.RowKit Go.Gv Go.ChangeShapes Go.WideShapes Go.ChangeAt Go.Deep

/-- the slice v is the list l, each element s cells -/
def RdE {α : Type} (s : Nat) (cells : α → List Value) (R : Nat → Prop) (w : World) (v : Value) (l : List α) : Prop :=
  (l = [] ∧ ∃ ao cap, v = .slice ao 0 cap) ∨
  ∃ g o cap, R g ∧ v = .slice (some ⟨g, o, none⟩) l.length cap ∧ 0 < l.length ∧ l.length ≤ cap ∧ cap ≤ maxLen ∧ ∀ i (h : i < l.length), ∀ j u, (cells l[i])[j]? = some u → w.cell? ⟨g, o + i * s + j, none⟩ = some u

theorem RdE.mod {α : Type} {s : Nat} {cells : α → List Value} {R S : Nat → Prop} {w w' : World} {v : Value} {l : List α} (h : RdE s cells R w v l) (hm : Mod S w w') (hs : ∀ k, R k → S k → False) : RdE s cells R w' v l := by
  rcases h with h | ⟨g, o, cap, h1, h2, h3, h4, h5, h6⟩
  · exact .inl h
  · exact .inr ⟨g, o, cap, h1, h2, h3, h4, h5, fun i hi j u hu => hm.cell (h6 i hi j u hu) (hs g h1)⟩

section
variable {H : Type} {enc : TypeId × Value → H} {W : World}

theorem trod_arr {t e : TypeId} {n fuel : Nat} {cs : List Value} {x : DataW H × List MemPlace} (ht : Try.prog.underlying t = some (.array n e)) (he : Try.prog.underlying e = some (.int .u8)) (hce : Try.prog.cellsOf e = 1) (hcs : Try.prog.cellsOf t = n)
    (h : DataW.trod enc Try.prog W 0 (fun _ => true) true fuel t cs = some x) : ∃ hs : List Int, cs = hs.map bv ∧ Bytes hs ∧ hs.length = n := by
  obtain ⟨xs, m, _, rfl, hl, hn, hx⟩ := DataW.trod_array ht h
  rw [hcs] at hl
  have key : ∀ i (hi : i < n), ∃ q : Int, cs[i]'(by omega) = bv q ∧ 0 ≤ q ∧ q < 256 := by
    intro i hi
    have := hx i hi
    rw [hce, Nat.mul_one, List.getElem?_eq_getElem (by omega)] at this
    have e1 : (cs.drop i).take 1 = [cs[i]'(by omega)] := by
      rw [List.drop_eq_getElem_cons (by omega : i < cs.length)]; rfl
    rw [e1] at this
    obtain ⟨q, e2, _, hw⟩ := DataW.trod_int he this
    simp at e2
    have hb := bounds_u8 hw
    exact ⟨q, e2, by omega, by omega⟩
  refine ⟨cs.map (intOf ·), ?_, ?_, by simp [hl]⟩
  · apply List.ext_getElem
    · simp
    · intro i h1 h2
      obtain ⟨q, hq, _⟩ := key i (by omega)
      simp [hq, intOf]
  · intro y hy
    obtain ⟨u, hu, rfl⟩ := List.mem_map.1 hy
    obtain ⟨i, hi, rfl⟩ := List.getElem_of_mem hu
    obtain ⟨q, hq, h0, h1⟩ := key i (by omega)
    rw [hq]
    exact ⟨h0, h1⟩

theorem trod_bytes {fuel : Nat} {v : Value} {x : DataW H × List MemPlace} (h : DataW.trod enc Try.prog W 0 (fun _ => true) true fuel 38 [v] = some x) : ∃ bs, RdR (fun k => k < W.heap.size) bs.length W v bs := by
  rcases open_ints Try.underlying38 Try.underlying5 (by kernel_rfl) h with ⟨hcs, _⟩ | ⟨x, len0, cap0, zs, hcs, _, hl, hm, hz, hx, hcell, hwz⟩
  · simp at hcs; subst hcs
    exact ⟨[], RdB.nil _, fun h => by simp at h, Nat.le_refl _⟩
  · simp at hcs; subst hcs
    simp only [if_true] at hz
    have hbl : (zs.take len0).length = len0 := by simp; omega
    refine ⟨zs.take len0, ⟨?_, ?_⟩, ?_, Nat.le_refl _⟩
    · intro y hy
      have := bounds_u8 (hwz y (List.mem_of_mem_take hy))
      omega
    · rw [hbl]
      refine ⟨by simp; omega, some x, cap0, rfl, hl, hm, (fun h => by cases h), ?_⟩
      intro y hy j u hu
      cases hy
      simp only [List.getElem?_map, Option.map_eq_some_iff] at hu
      obtain ⟨q, hq, rfl⟩ := hu
      have hj : j < len0 := by have := (List.getElem?_eq_some_iff.1 hq).1; omega
      rw [List.getElem?_take, if_pos hj] at hq
      have h0 := hcell 0 (by omega)
      refine ⟨by simpa [Addr.add] using World.cell?_spot h0, ?_⟩
      rw [hcell j (by omega)]
      simp [List.getD, hq]
    · intro h0 g hg
      rw [hbl] at h0
      simp [Value.ownBlock] at hg
      subst hg
      have h0 := World.block_lt_of_cell? _ _ (hcell 0 (by omega))
      simpa [Addr.add] using h0

/-- a slice whose elements are read one by one -/
theorem trod_list {α : Type} [Inhabited α] {t e : TypeId} {s fuel : Nat} (cells : α → List Value) (Ok : α → Prop) {v : Value} {x : DataW H × List MemPlace} (ht : Try.prog.underlying t = some (.slice e)) (hce : Try.prog.cellsOf e = s) (hs : 0 < s) (hlen : ∀ a, (cells a).length = s)
    (he : ∀ fuel cs x, DataW.trod enc Try.prog W 0 (fun _ => true) true fuel e cs = some x → ∃ a, cs = cells a ∧ Ok a)
    (h : DataW.trod enc Try.prog W 0 (fun _ => true) true fuel t [v] = some x) : ∃ l : List α, RdE s cells (fun k => k < W.heap.size) W v l ∧ ∀ a ∈ l, Ok a := by
  rcases open_slice ht h with ⟨hcs, _⟩ | ⟨a, len, cap, m, n, D, Pl, hcs, _, hl, hm, hmm, _, hel⟩
  · simp at hcs; subst hcs
    exact ⟨[], .inl ⟨rfl, _, _, rfl⟩, fun a ha => by cases ha⟩
  · simp at hcs; subst hcs
    simp only [if_true] at hmm
    subst hmm
    rcases Nat.eq_zero_or_pos len with rfl | hpos
    · exact ⟨[], .inl ⟨rfl, _, _, rfl⟩, fun a ha => by cases ha⟩
    have key : ∀ i, i < len → ∃ b : α, W.cells? 0 (a.add (i * s)) s = some (cells b) ∧ Ok b := by
      intro i hi
      obtain ⟨cs', h1, h2⟩ := hel i (by omega)
      rw [hce] at h1
      obtain ⟨b, rfl, hb⟩ := he _ _ _ h2
      exact ⟨b, h1, hb⟩
    obtain ⟨f, hf⟩ := choose_lt key
    have cell : ∀ i, i < len → ∀ j u, (cells (f i))[j]? = some u → W.cell? ((a.add (i * s)).add j) = some u := by
      intro i hi j u hu
      obtain ⟨_, hl2, hc2⟩ := World.cells?_some (hf i hi).1
      have hj := (List.getElem?_eq_some_iff.1 hu).1
      rw [hc2 j (by omega), hu]
    have h00 : 0 < (cells (f 0)).length := by rw [hlen]; exact hs
    have c00 := cell 0 hpos 0 _ (List.getElem?_eq_getElem h00)
    have ea : (a.add (0 * s)).add 0 = a := by simp [Addr.add]
    rw [ea] at c00
    have hspot := World.cell?_spot c00
    have hblk := World.block_lt_of_cell? _ _ c00
    obtain ⟨g, o, sp⟩ := a
    simp only at hspot hblk
    subst hspot
    refine ⟨(List.range len).map f, .inr ⟨g, o, m, hblk, by simp, by simpa using hpos, by simpa using hl, hm, ?_⟩, ?_⟩
    · intro i hi j u hu
      simp only [List.length_map, List.length_range] at hi
      have := cell i hi j u (by simpa using hu)
      rw [add_mk, add_mk] at this
      exact this
    · intro b hb
      obtain ⟨i, hi, rfl⟩ := List.mem_map.1 hb
      exact (hf i (by simpa using hi)).2
end
end Go.Proofs.Ytpnikilkcifncaa

/- Elements of slices: their addresses, appending one that has many cells. No program here. -/
namespace Go.Gv
open Go Go.RowKit

section
variable {P : Program} {o : Oper} {a : Act} {w w' : World}
theorem ex_idxS {T e : TypeId} {x y : Operand} {g off n cap i s : Nat} {k : IntKind} (ho : o.op = .indexAddr T x y) (hu : P.underlying T = some (.slice e)) (hs : (P.info? e).map (·.size) = some s) (hx : a.eval x = .slice (some ⟨g, off, none⟩) n cap) (hy : a.eval y = .int k (i : Int)) (hi : i < n) :
    (execOp a.eval o).run P w = .ok (.value (.pointer (some ⟨g, off + i * s, none⟩))) w := by
  have hsz : (sizeOf e).run P w = .ok s w := by
    cases hq : P.info? e with
    | none => rw [hq] at hs; cases hs
    | some i => rw [hq] at hs; simp [sizeOf, typeInfo, hq]; exact Option.some.inj hs
  unfold execOp
  simp [ho, hx, hy, Instr.indexAt, asIntOf, run_underlying hu, hsz, hi, add_mk]
end
end Go.Gv

/- Arithmetic of single operations; elements of arrays. No program here. -/
namespace Go.Gv
open Go Go.RowKit

section
variable {P : Program} {o : Oper} {a : Act} {w w' : World} {t : TypeId} {k : IntKind}
end
end Go.Gv

/- Single operations for wp_region_Q: calls of function values, parts of results, slices' rows, appends of things. No program here. -/
namespace Go.Gv
open Go Go.RowKit

section
variable {P : Program} {ops : Array Oper} {Q : Exit → Act → World → Prop} {i : Nat} {o : Oper} {a : Act} {w : World} {KQ : Value → World → Prop}
theorem ex_callV {x : Operand} {F : FuncId} {xs : Array Operand} {ts : Array TypeId} (ho : o.op = .call { callee := .value x, args := xs, argTypes := ts }) (hx : a.eval x = .func (.func F) #[] #[]) {fn : Func} (hf : P.funcs[F]? = some fn) (hn : (fn.name == "runtime.NumGoroutine") = false) (hb : fn.body.isNone = false) :
    (execOp a.eval o).run P w = .ok (.enter F (xs.map a.eval)) w := by
  have hn' : ¬ fn.name = "runtime.NumGoroutine" := by simpa using hn
  have hb' : ¬ fn.body = none := by intro e; rw [e] at hb; cases hb
  unfold execOp
  simp [ho, resolve, invoke, hx, Deferred.ofValue, callFunc, hf, hn', hb']
theorem ex_extract {x : Operand} {k : Nat} {vs : Array Value} {v : Value} (ho : o.op = .extract x k) (hx : a.eval x = .tuple vs) (hv : vs[k]? = some v) : (execOp a.eval o).run P w = .ok (.value v) w := by
  unfold execOp
  simp [ho, hx, Instr.extract, hv]
theorem ex_binE {op : BinOp} {t u : TypeId} {x y : Operand} {vx vy v v' : Value} (ho : o.op = .binOp op t x y u) (hx : a.eval x = vx) (hy : a.eval y = vy) (hg : (eqGuard op t x y vx vy).run P w = .ok () w) (hr : (binOp op t vx vy).run P w = .ok v w) (he : v = v') : (execOp a.eval o).run P w = .ok (.value v') w := by
  subst he; exact ex_bin ho hx hy hg hr
theorem ex_pickE {c x y : Operand} {b : Bool} {vx vy v : Value} (ho : o.op = .pick c x y) (hc : a.eval c = .bool b) (hx : a.eval x = vx) (hy : a.eval y = vy) (he : (if b then vx else vy) = v) : (execOp a.eval o).run P w = .ok (.value v) w := by
  subst he; exact ex_pick ho hc hx hy
theorem add_zero (a : Addr) : a.add 0 = a := by
  unfold Addr.add
  split <;> simp_all
end
end Go.Gv

/- Short forms for printed walks: facts carried over a whole chain at once, single operations, regions without new variables. No program here. -/
namespace Go.Gv
open Go Go.RowKit

theorem hid {p : Prop} (h : p) : Hid p := h
/-- a chain's steps, told at once: S: what of old they may turn -/
theorem Mod.new {S : Nat → Prop} {w a : World} (h : Mod (fun j => w.heap.size ≤ j) w a) : Mod S w a := h.mono fun k hk h => absurd hk (Nat.not_lt.2 h)
theorem Mod.goR {S R : Nat → Prop} {w a c : World} (h : Mod S w a) (hr : Mod (fun j => w.heap.size ≤ j ∧ R j) a c) : Mod S w c :=
  h.trans hr fun k hk h => absurd hk (Nat.not_lt.2 h.1)
theorem Mod.goM {S T R : Nat → Prop} {w a b c : World} (h : Mod S w a) (hm : Mod T a b) (hr : Mod (fun j => w.heap.size ≤ j ∧ R j) b c) (hs : ∀ k, k < w.heap.size → T k → S k) : Mod S w c :=
  (h.trans hm hs).goR hr
theorem Mod.go {S R : Nat → Prop} {w a b c : World} (h : Mod S w a) (hm : Mod (fun _ => False) a b) (hr : Mod (fun j => w.heap.size ≤ j ∧ R j) b c) : Mod S w c :=
  h.goM hm hr fun _ _ h => h.elim
theorem Mod.old {w a : World} (h : Mod (fun j => (j < w.heap.size ∧ False) ∨ w.heap.size ≤ j) w a) : Mod (fun j => w.heap.size ≤ j) w a := h.mono fun _ _ h => h.elim (fun h => h.2.elim) (fun h => h)
theorem chv {v x : Value} (h : some v = some x) : x = v := (Option.some.inj h).symm
theorem list_eta {vs : List Value} {n : Nat} (hl : vs.length = n) : vs = (List.range n).map fun i => vs.getD i undef := by
  subst hl
  refine List.ext_getElem? fun i => ?_
  rcases Nat.lt_or_ge i vs.length with h | h
  · simp [List.getD_eq_getElem?_getD, h]
  · simp [h]
theorem getq {vs : List Value} {n p : Nat} (hl : vs.length = n) (h : p < n) : vs[p]? = some (vs.getD p undef) := by
  subst hl
  simp [List.getD_eq_getElem?_getD, h]
theorem getv {vs : List Value} {p : Nat} {v : Value} (h : vs[p]? = some v) : vs.getD p undef = v := by
  rw [List.getD_eq_getElem?_getD, h]
  rfl
section
variable {β : Type} {f : Operand → β}
theorem args0 : (#[] : Array Operand).map f = #[] := by simp
theorem args1 {x1 : Operand} {a1 : β} (h1 : f x1 = a1) : #[x1].map f = #[a1] := by rw [← h1]; simp
theorem args2 {x1 x2 : Operand} {a1 a2 : β} (h1 : f x1 = a1) (h2 : f x2 = a2) : #[x1, x2].map f = #[a1, a2] := by rw [← h1, ← h2]; simp
theorem args3 {x1 x2 x3 : Operand} {a1 a2 a3 : β} (h1 : f x1 = a1) (h2 : f x2 = a2) (h3 : f x3 = a3) : #[x1, x2, x3].map f = #[a1, a2, a3] := by rw [← h1, ← h2, ← h3]; simp
end
section
variable {P : Program} {ops : Array Oper} {Q : Exit → Act → World → Prop} {a0 : Act} {w0 : World} {n : Nat} {ss : List Nat} {S0 : Nat → Prop} {SS : Nat → Nat → Prop} {l : List QPred} {c : List Nat} {al : List QRow} {i : Nat} {o : Oper}
/-- what is known where an operation beside the chain stands -/
structure StE (ops : Array Oper) (a0 : Act) (w0 : World) (n : Nat) (ss : List Nat) (S0 : Nat → Prop) (SS : Nat → Nat → Prop) (l : List QPred) (c : List Nat) (i : Nat) (o : Oper) (Z : Nat → Prop) (t : List Value) (a : Act) (w : World) : Prop where
  inZ : ∀ j, Z j → w0.heap.size ≤ j ∧ j < w.heap.size
  m : Mod (fun j => (j < w0.heap.size ∧ S0 j) ∨ w0.heap.size ≤ j) w0 w
  m0 : Mod (fun j => (j < w0.heap.size ∧ ∃ k, k < t.length ∧ SS k j) ∨ w0.heap.size ≤ j) w0 w
  out : ∀ t, t ∉ ss → a.eval (.tmp t) = a0.eval (.tmp t)
  sz : ∀ s, s < n → s < a.tmps.size
  on : ∀ e ∈ o.after, Region.binds .any e = true → ∀ s, (ops[e.on]?).bind (·.dst) = some s → (l.getD e.on qa) Z t (a.eval (.tmp s)) w
  ub : ∀ k q, c[k]? = some q → (clo ops ops.size (afterOf ops q)).contains i = true → t.length ≤ k
  pre : ∀ j s, (ops[j]?).bind (·.dst) = some s → (clo ops ops.size (afterOf ops j)).contains i = true → a.eval (.tmp s) = a0.eval (.tmp s)
theorem StE.v {Z : Nat → Prop} {t : List Value} {a : Act} {w : World} (E : StE ops a0 w0 n ss S0 SS l c i o Z t a w) {k : Nat} {v : Value} (h : a0.eval (.tmp k) = v) (hk : k ∉ ss := by decide) : a.eval (.tmp k) = v := (E.out k hk).trans h
theorem StE.e {Z : Nat → Prop} {t : List Value} {a : Act} {w : World} (E : StE ops a0 w0 n ss S0 SS l c i o Z t a w) (k : Nat) (g : Ground) {s : Nat} (h : (⟨k, g⟩ : Edge) ∈ o.after := by simp) (hb : Region.binds .any ⟨k, g⟩ = true := by rfl) (hs : (ops[k]?).bind (·.dst) = some s := by rfl) : (l.getD k qa) Z t (a.eval (.tmp s)) w := E.on ⟨k, g⟩ h hb s hs
theorem StE.d {Z : Nat → Prop} {t : List Value} {a : Act} {w : World} (E : StE ops a0 w0 n ss S0 SS l c i o Z t a w) (k : Nat) {s : Nat} (h : (⟨k, .data⟩ : Edge) ∈ o.after := by simp) (hs : (ops[k]?).bind (·.dst) = some s := by rfl) : (l.getD k qa) Z t (a.eval (.tmp s)) w := E.on ⟨k, .data⟩ h rfl s hs
/-- where one of the chain stands -/
structure ChE (ops : Array Oper) (a0 : Act) (n : Nat) (ss : List Nat) (B : Nat) (l : List QPred) (i : Nat) (o : Oper) (Y : Nat → Prop) (Z : Nat → Prop) (t : List Value) (a : Act) (w : World) : Prop where
  YZ : ∀ j, Y j → Z j
  inZ : ∀ j, Z j → B ≤ j ∧ j < w.heap.size
  out : ∀ t, t ∉ ss → a.eval (.tmp t) = a0.eval (.tmp t)
  sz : ∀ s, s < n → s < a.tmps.size
  on : ∀ e ∈ o.after, Region.binds .any e = true → ∀ s, (ops[e.on]?).bind (·.dst) = some s → (l.getD e.on qa) Z t (a.eval (.tmp s)) w
  pre : ∀ j s, (ops[j]?).bind (·.dst) = some s → (clo ops ops.size (afterOf ops j)).contains i = true → a.eval (.tmp s) = a0.eval (.tmp s)
theorem ChE.v {B : Nat} {Y Z : Nat → Prop} {t : List Value} {a : Act} {w : World} (E : ChE ops a0 n ss B l i o Y Z t a w) {k : Nat} {v : Value} (h : a0.eval (.tmp k) = v) (hk : k ∉ ss := by decide) : a.eval (.tmp k) = v := (E.out k hk).trans h
theorem ChE.e {B : Nat} {Y Z : Nat → Prop} {t : List Value} {a : Act} {w : World} (E : ChE ops a0 n ss B l i o Y Z t a w) (k : Nat) (g : Ground) {s : Nat} (h : (⟨k, g⟩ : Edge) ∈ o.after := by simp) (hb : Region.binds .any ⟨k, g⟩ = true := by rfl) (hs : (ops[k]?).bind (·.dst) = some s := by rfl) : (l.getD k qa) Z t (a.eval (.tmp s)) w := E.on ⟨k, g⟩ h hb s hs
theorem ChE.d {B : Nat} {Y Z : Nat → Prop} {t : List Value} {a : Act} {w : World} (E : ChE ops a0 n ss B l i o Y Z t a w) (k : Nat) {s : Nat} (h : (⟨k, .data⟩ : Edge) ∈ o.after := by simp) (hs : (ops[k]?).bind (·.dst) = some s := by rfl) : (l.getD k qa) Z t (a.eval (.tmp s)) w := E.on ⟨k, .data⟩ h rfl s hs
theorem QChain.go {B : Nat} {Y : Nat → Prop} {k : Nat} {t : List Value} {w : World} (h : ∀ Z a, ChE ops a0 n ss B l i o Y Z t a w → wpOp P ops Q i (fun a' w' => ∃ v, a' = a.put o.dst v ∧ QPost P ops Q a0 n ss B S0 SS l al i c k Y t w v w') a w) (ho : ops[i]? = some o := by rfl) : QChain P ops Q a0 n ss B S0 SS l al (i :: c) k Y t w :=
  QChain.cons ho fun Z a h1 h2 h3 h4 h5 h6 => h Z a ⟨h1, h2, h3, h4, h5, h6⟩
theorem stq {v : Value} (hs : ∀ {Z : Nat → Prop} {t : List Value} {a : Act} {w : World}, StE ops a0 w0 n ss S0 SS l c i o Z t a w → (execOp a.eval o).run P w = .ok (.value v) w) (ho : ops[i]? = some o := by rfl) (hg : o.guard = none := by rfl) (hv : l.getD i qa = qi v := by rfl)
    (h : c.contains i = false := by rfl) (h0 : al.find? (fun r => r.a == i) = none := by rfl) (h1 : al.find? (fun r => r.s == i) = none := by rfl) : StepQ P ops Q a0 w0 n ss S0 SS l c al i o :=
  stepq_env h h0 h1 fun Z t a w k1 k2 k3 k4 k5 k6 k7 k8 => qe_run ho (wanted_none hg) (hs ⟨k1, k2, k3, k4, k5, k6, k7, k8⟩) QE.refl (by rw [hv]; rfl)
def gw (vs : List Value) (i : Nat) : Value := vs.getD i undef
theorem gw_eta {vs : List Value} {n : Nat} (hl : vs.length = n) : vs = (List.range n).map fun i => gw vs i := list_eta hl
theorem fvi {Z : Nat → Prop} {t : List Value} {w : World} {vs : List Value} {m : Nat} {x : Value} (hV : ∀ p v, vs[p]? = some v → (l.getD p qa) Z t v w) (hl : vs.length = m) (p : Nat) (hp : p < m := by decide) (he : l.getD p qa = qi x := by rfl) : gw vs p = x := by
  have h := hV p _ (getq hl hp)
  rw [he] at h
  exact h
theorem fvc {Z : Nat → Prop} {t : List Value} {w : World} {vs : List Value} {m k : Nat} {x : Value} (hV : ∀ p v, vs[p]? = some v → (l.getD p qa) Z t v w) (hl : vs.length = m) (p : Nat) (hp : p < m := by decide) (he : l.getD p qa = qv k := by rfl) (hx : t[k]? = some x := by rfl) : gw vs p = x := by
  have h := hV p _ (getq hl hp)
  rw [he] at h
  exact (Option.some.inj (hx.symm.trans h)).symm
/-- a region without new variables -/
theorem wp_region_Q1 {d : Bool} {id : Nat} (n : Nat) (hn : a0.tmps.size = n) (ss : List Nat)
    (S0 : Nat → Prop) (SS : Nat → Nat → Prop) (hSS : ∀ k j, SS k j → S0 j) (l : List QPred) (stable : AllQ w0.heap.size S0 l) (c : List Nat)
    (step : Each (StepQ P ops Q a0 w0 n ss S0 SS l c []) 0 ops.toList)
    (start : ∀ w1, Mod (fun j => w0.heap.size ≤ j) w0 w1 → QChain P ops Q a0 n ss w0.heap.size S0 SS l [] c 0 (fun _ => False) [] w1)
    (hm : P.follows .mixedOrders = true := by kernel_rfl) (hac : backward ops = true := by kernel_rfl) (hss : okSlots ops n ss = true := by kernel_rfl) (hnd : ss.Nodup := by decide) (hlk : linked ops c = true := by kernel_rfl) (hcn : c.Nodup := by decide) (hcs : (c.all fun i => decide (i < ops.size)) = true := by kernel_rfl) : (Code.region id ops d).wp P Q a0 w0 :=
  wp_region_Q n hn hm hac ss hss hnd S0 SS hSS l stable c hlk hcn hcs [] rfl (fun r hr => by cases hr) (fun r hr => by cases hr) (fun r hr => by cases hr) step start
/-- one that turns nothing of old -/
theorem wp_region_Q0 {d : Bool} {id : Nat} (n : Nat) (hn : a0.tmps.size = n) (ss : List Nat) (l : List QPred) (stable : AllQ w0.heap.size (fun _ => False) l) (c : List Nat)
    (step : Each (StepQ P ops Q a0 w0 n ss (fun _ => False) (fun _ _ => False) l c []) 0 ops.toList)
    (start : ∀ w1, Mod (fun j => w0.heap.size ≤ j) w0 w1 → QChain P ops Q a0 n ss w0.heap.size (fun _ => False) (fun _ _ => False) l [] c 0 (fun _ => False) [] w1)
    (hm : P.follows .mixedOrders = true := by kernel_rfl) (hac : backward ops = true := by kernel_rfl) (hss : okSlots ops n ss = true := by kernel_rfl) (hnd : ss.Nodup := by decide) (hlk : linked ops c = true := by kernel_rfl) (hcn : c.Nodup := by decide) (hcs : (c.all fun i => decide (i < ops.size)) = true := by kernel_rfl) : (Code.region id ops d).wp P Q a0 w0 :=
  wp_region_Q1 n hn ss _ _ (fun _ _ h => h) l stable c step start hm hac hss hnd hlk hcn hcs
theorem qc_callF {KQ : Value → World → Prop} {a : Act} {w : World} {F : FuncId} {xs : Array Operand} {ts : Array TypeId} {args : Array Value} {post : Ending → World → Prop} {fn : Func} (ho : ops[i]? = some o) (hw : Region.wanted o (yielded ops a.tmps) = true) (hop : o.op = .call { callee := .value (.func F), args := xs, argTypes := ts })
    (hf : P.funcs[F]? = some fn) (ha : xs.map a.eval = args) (hcl : Calls P F args w post) (hp : ∀ e w', post e w' → ∃ v, e = .returned v ∧ KQ v w') (hn : (fn.name == "runtime.NumGoroutine") = false := by kernel_rfl) (hb : fn.body.isNone = false := by kernel_rfl) : wpOp P ops Q i (fun a' w' => ∃ v, a' = a.put o.dst v ∧ KQ v w') a w :=
  qc_call ho hw (by rw [ex_callF hop hf hn hb, ha]) hcl hp
theorem qe_callF {B : Nat} {Z : Nat → Prop} {t : List Value} {a : Act} {w : World} {F : FuncId} {xs : Array Operand} {ts : Array TypeId} {args : Array Value} {post : Ending → World → Prop} {fn : Func} (ho : ops[i]? = some o) (hw : Region.wanted o (yielded ops a.tmps) = true) (hop : o.op = .call { callee := .value (.func F), args := xs, argTypes := ts })
    (hf : P.funcs[F]? = some fn) (ha : xs.map a.eval = args) (hcl : Calls P F args w post) (hp : ∀ e w', post e w' → ∃ v, e = .returned v ∧ QE B Z w w' ∧ (l.getD i qa) Z t v w') (hn : (fn.name == "runtime.NumGoroutine") = false := by kernel_rfl) (hb : fn.body.isNone = false := by kernel_rfl) : wpOp P ops Q i (QJ B l Z i o t a w) a w :=
  qe_call ho hw (by rw [ex_callF hop hf hn hb, ha]) hcl hp
end
end Go.Gv

/- Answers of the chain of which more is known than what they are: new variables that are written whole with them. No program here. -/
namespace Go.Gv
open Go Go.RowKit

end Go.Gv

/- A region that keeps its order, told operation by operation. No program here. -/
namespace Go.Gv
open Go Go.RowKit

theorem putAll_snoc : ∀ (ss : List Nat) (t : List Value) (a : Act) (s : Nat) (v : Value), ss[t.length]? = some s → (putAll a ss t).put (some s) v = putAll a ss (t ++ [v])
  | [], t, a, s, v, h => by simp at h
  | s :: ss, [], a, s', v, h => by
    simp only [List.length_nil, List.getElem?_cons_zero, Option.some.injEq] at h
    subst h
    cases ss <;> rfl
  | s :: ss, u :: t, a, s', v, h => by
    simp only [List.length_cons, List.getElem?_cons_succ] at h
    simp only [List.cons_append, putAll]
    exact putAll_snoc ss t _ s' v h
theorem putAll_take : ∀ (ss : List Nat) (t : List Value) (a : Act), putAll a ss t = putAll a (ss.take t.length) t
  | [], t, a => by simp
  | s :: ss, [], a => rfl
  | s :: ss, u :: t, a => by
    simp only [List.length_cons, List.take_succ_cons, putAll]
    exact putAll_take ss t _
theorem putAll_at : ∀ (ss : List Nat) (t : List Value) (a : Act) (p s : Nat) (v : Value), ss.Nodup → ss[p]? = some s → t[p]? = some v → s < a.tmps.size → (putAll a ss t).tmps[s]? = some v
  | [], t, a, p, s, v, hn, h, hv, hs => by simp at h
  | s :: ss, [], a, p, s', v, hn, h, hv, hs => by simp at hv
  | s :: ss, u :: t, a, 0, s', v, hn, h, hv, hs => by
    simp only [List.getElem?_cons_zero, Option.some.injEq] at h hv
    subst h hv
    simp only [putAll]
    rw [putAll_out ss t _ s (List.nodup_cons.1 hn).1, put_tmps]
    simp [hs]
  | s :: ss, u :: t, a, p + 1, s', v, hn, h, hv, hs => by
    simp only [List.getElem?_cons_succ] at h hv
    simp only [putAll]
    exact putAll_at ss t _ p s' v (List.nodup_cons.1 hn).2 h hv (by simpa [put_tmps] using hs)
/-- what is known of the frame where an operation stands: t: the answers of those ahead of it, the last one first -/
structure SqE (a0 : Act) (n : Nat) (ss : List Nat) (t : List Value) (a : Act) : Prop where
  out : ∀ s : Nat, s ∉ ss → a.eval (.tmp s) = a0.eval (.tmp s)
  sz : ∀ s : Nat, s < n → s < a.tmps.size
  on : ∀ (k p s : Nat) (v : Value), ss[k]? = some s → t[p]? = some v → p + k + 1 = t.length → s < n → a.eval (.tmp s) = v
  yet : ∀ (k s : Nat), t.length ≤ k → ss[k]? = some s → a.eval (.tmp s) = a0.eval (.tmp s)
section
variable {P : Program} {ops : Array Oper} {Q : Exit → Act → World → Prop} {a0 : Act} {n : Nat} {ss : List Nat} {c : List Nat} {i : Nat} {o : Oper} {t : List Value} {w w' : World} {a : Act}
theorem SqE.v (E : SqE a0 n ss t a) {k : Nat} {v : Value} (h : a0.eval (.tmp k) = v) (hk : k ∉ ss := by decide) : a.eval (.tmp k) = v := (E.out k hk).trans h
theorem SqE.y (E : SqE a0 n ss t a) (k : Nat) {s : Nat} {v : Value} (h : a0.eval (.tmp s) = v) (hs : ss[k]? = some s := by rfl) (hk : Nat.ble t.length k = true := by rfl) : a.eval (.tmp s) = v := (E.yet k s (Nat.le_of_ble_eq_true hk) hs).trans h
theorem SqE.d (E : SqE a0 n ss t a) (k p : Nat) {s : Nat} {v : Value} (hs : ss[k]? = some s := by rfl) (hv : t[p]? = some v := by rfl) (hp : p + k + 1 = t.length := by rfl) (hn : s < n := by decide) : a.eval (.tmp s) = v := E.on k p s v hs hv hp hn
theorem SqE.q (E : SqE a0 n ss t a) (k p : Nat) {s : Nat} {v x : Value} {b : Bool} (h : (b = true → v = x) ∧ (b = false → v = undef)) (hs : ss[k]? = some s := by rfl) (hv : t[p]? = some v := by rfl) (hp : p + k + 1 = t.length := by rfl) (hn : s < n := by decide) : (b = true → a.eval (.tmp s) = x) ∧ (b = false → a.eval (.tmp s) = undef) := by
  rw [E.on k p s v hs hv hp hn]
  exact h
def QSeq (P : Program) (ops : Array Oper) (Q : Exit → Act → World → Prop) (a0 : Act) (n : Nat) (ss : List Nat) : List Nat → List Value → World → Prop
  | [], t, w => Q .normal (putAll a0 ss t.reverse) w
  | i :: c, t, w => ∀ a, SqE a0 n ss t a → wpOp P ops Q i (fun a' w' => ∃ o v, ops[i]? = some o ∧ a' = a.put o.dst v ∧ QSeq P ops Q a0 n ss c (v :: t) w') a w
theorem QSeq.go (h : ∀ a, SqE a0 n ss t a → wpOp P ops Q i (fun a' w' => ∃ v, a' = a.put o.dst v ∧ QSeq P ops Q a0 n ss c (v :: t) w') a w) (ho : ops[i]? = some o := by rfl) : QSeq P ops Q a0 n ss (i :: c) t w :=
  fun a E => wpOp_mono (fun a' w' ⟨v, e, hq⟩ => ⟨o, v, ho, e, hq⟩) (h a E)
theorem QSeq.nil {t' : List Value} (e : t.reverse = t') (h : Q .normal (putAll a0 ss t') w) : QSeq P ops Q a0 n ss [] t w := by subst e; exact h
theorem QSeq.pure {v' : Value} (ho : ops[i]? = some o) (v : Value) (hs : ∀ {a}, SqE a0 n ss t a → (execOp a.eval o).run P w = .ok (.value v') w) (h : QSeq P ops Q a0 n ss c (v :: t) w) (hg : o.guard = none := by rfl) (hv : v' = v := by rfl) : QSeq P ops Q a0 n ss (i :: c) t w :=
  QSeq.go (fun a E => qc_run ho (wanted_none hg) (hv ▸ hs E) h) ho
theorem QSeq.pureG {v' : Value} (ho : ops[i]? = some o) (v : Value) (hw : ∀ {a}, SqE a0 n ss t a → Region.wanted o (yielded ops a.tmps) = true) (hs : ∀ {a}, SqE a0 n ss t a → (execOp a.eval o).run P w = .ok (.value v') w) (h : QSeq P ops Q a0 n ss c (v :: t) w) (hv : v' = v := by rfl) : QSeq P ops Q a0 n ss (i :: c) t w :=
  QSeq.go (fun a E => qc_run ho (hw E) (hv ▸ hs E) h) ho
theorem QSeq.skip (ho : ops[i]? = some o) (hw : ∀ {a}, SqE a0 n ss t a → Region.wanted o (yielded ops a.tmps) = false) (h : QSeq P ops Q a0 n ss c (undef :: t) w) : QSeq P ops Q a0 n ss (i :: c) t w := by
  refine QSeq.go (fun a E => ?_) ho
  unfold wpOp
  rw [ho]
  simp only [hw E]
  exact ⟨undef, rfl, h⟩
/-- one that a test may leave out -/
theorem QSeq.may {b : Bool} {x' : Value} (ho : ops[i]? = some o) (x : Value) (hw : ∀ {a}, SqE a0 n ss t a → Region.wanted o (yielded ops a.tmps) = b) (hs : ∀ {a}, SqE a0 n ss t a → b = true → (execOp a.eval o).run P w = .ok (.value x') w)
    (h : ∀ v, ((b = true → v = x) ∧ (b = false → v = undef)) → QSeq P ops Q a0 n ss c (v :: t) w) (hv : x' = x := by rfl) : QSeq P ops Q a0 n ss (i :: c) t w := by
  cases b with
  | false => exact QSeq.skip ho hw (h undef ⟨(fun e => by cases e), fun _ => rfl⟩)
  | true => exact QSeq.pureG ho x hw (fun E => hs E rfl) (h x ⟨fun _ => rfl, fun e => by cases e⟩) hv
/-- a call that turns nothing, which a test may leave out -/
theorem QSeq.mayCall {b : Bool} (ho : ops[i]? = some o) (x : Value) {F : FuncId} {xs : Array Operand} {ts : Array TypeId} {args : Array Value} {fn : Func} (hw : ∀ {a}, SqE a0 n ss t a → Region.wanted o (yielded ops a.tmps) = b) (hop : o.op = .call { callee := .value (.func F), args := xs, argTypes := ts }) (hf : P.funcs[F]? = some fn)
    (ha : ∀ {a}, SqE a0 n ss t a → b = true → xs.map a.eval = args) (hcl : b = true → Calls P F args w (fun e w' => e = .returned x ∧ Mod (fun _ => False) w w'))
    (h : ∀ v w', ((b = true → v = x) ∧ (b = false → v = undef)) → Mod (fun _ => False) w w' → QSeq P ops Q a0 n ss c (v :: t) w') (hn : (fn.name == "runtime.NumGoroutine") = false := by kernel_rfl) (hb : fn.body.isNone = false := by kernel_rfl) : QSeq P ops Q a0 n ss (i :: c) t w := by
  cases b with
  | false => exact QSeq.skip ho hw (h undef w ⟨(fun e => by cases e), fun _ => rfl⟩ (Mod.refl _ _))
  | true =>
    refine QSeq.go (fun a E => ?_) ho
    refine qc_callF ho (hw E) hop hf (ha E rfl) (hcl rfl) (fun e w' ⟨he, hm⟩ => ⟨x, he, h x w' ⟨fun _ => rfl, fun e => by cases e⟩ hm⟩) hn hb
theorem wp_region_S {id : Nat} (n : Nat) (hn : a0.tmps.size = n) (ss : List Nat) (c : List Nat) (h : QSeq P ops Q a0 n ss c [] w) (hc : c = List.range ops.size := by kernel_rfl) (hss : okSlots ops n ss = true := by kernel_rfl) (hnd : ss.Nodup := by decide) : (Code.region id ops false).wp P Q a0 w := by
  subst hc
  refine wp_region ?_
  have key : ∀ (m i : Nat) (t : List Value) (w : World), i + m = ops.size → t.length = i → QSeq P ops Q a0 n ss (List.range' i m) t w → wpOps P ops Q (List.range' i m) (putAll a0 ss t.reverse) w := by
    intro m
    induction m with
    | zero => intro i t w _ _ h; exact h
    | succ m ih =>
      intro i t w him hti h
      rw [List.range'_succ] at h ⊢
      rw [wpOps_cons]
      refine wpOp_mono ?_ (h (putAll a0 ss t.reverse) ⟨fun s hs => eval_out _ _ _ _ hs, fun s hs => by rw [putAll_size, hn]; exact hs, fun k p s v hk hv hp hsn => ?_, fun k s hk hks => ?_⟩)
      · rintro a' w' ⟨o, v, ho, rfl, hq⟩
        obtain ⟨s, hs, hds⟩ := okSlots_at hss ho
        have e : (putAll a0 ss t.reverse).put o.dst v = putAll a0 ss (v :: t).reverse := by
          have e1 := putAll_snoc ss t.reverse a0 s v (by rw [List.length_reverse, hti]; exact hs)
          rw [List.reverse_cons]
          rcases hds with ⟨h1, h2⟩ | ⟨h1, h2⟩
          · rw [h1]; exact e1
          · rw [h1, ← e1, put_far _ (by rw [putAll_size, hn]; exact h2)]; rfl
        rw [e]
        exact ih (i + 1) (v :: t) w' (by omega) (by simp [hti]) hq
      · have hv' : t.reverse[k]? = some v := by
          rw [List.getElem?_reverse (by omega), show t.length - 1 - k = p by omega]
          exact hv
        have := putAll_at ss t.reverse a0 k s v hnd hk hv' (by rw [hn]; exact hsn)
        simp only [Act.eval, Array.getD_eq_getD_getElem?]
        rw [this]
        rfl
      · rw [putAll_take]
        refine eval_out _ _ _ _ fun hm => ?_
        obtain ⟨j, hj, e⟩ := List.getElem_of_mem hm
        rw [List.getElem_take] at e
        have hj2 : j < t.length := by rw [List.length_take, List.length_reverse] at hj; omega
        have hj3 : ss[j]? = some s := by rw [← e]; exact List.getElem?_eq_getElem _
        have := (List.getElem?_inj (List.getElem?_eq_some_iff.1 hj3).1 hnd).1 (hj3.trans hks.symm)
        omega
  rw [List.range_eq_range'] at h ⊢
  have hk := key ops.size 0 [] w (by omega) rfl h
  rw [show putAll a0 ss ([] : List Value).reverse = a0 by cases ss <;> rfl] at hk
  exact hk
theorem beq_t (b : Bool) : (b == true) = b := by cases b <;> rfl
theorem beq_f (b : Bool) : (b == false) = !b := by cases b <;> rfl
theorem Mod.goS {S S' T : Nat → Prop} {w a b : World} (h : Mod S w a) (hm : Mod T a b) (hS : ∀ k, S k → S' k) (hT : ∀ k, k < w.heap.size → T k → S' k) : Mod S' w b := (h.mono (fun k _ h => hS k h)).trans hm hT
theorem Mod.goE {S : Nat → Prop} {w a b : World} (h : Mod S w a) (hm : Mod (fun _ => False) a b) : Mod S w b := h.trans hm (fun _ _ h => h.elim)
theorem ev {a1 a0 : Act} (h : Hid (a1 = a0)) (k : Nat) {v : Value} (e : a1.tmps.toList[k]? = some v) : a0.eval (.tmp k) = v := by
  have h := h.out
  subst h
  simp only [Act.eval, Array.getD_eq_getD_getElem?]
  rw [← Array.getElem?_toList, e]
  rfl
theorem wp_region_U {id : Nat} {a1 : Act} (n : Nat) (ss : List Nat) (c : List Nat) (h : ∀ a0, Hid (a1 = a0) → QSeq P ops Q a0 n ss c [] w) (hn : a1.tmps.size = n := by rfl) (hc : c = List.range ops.size := by kernel_rfl) (hss : okSlots ops n ss = true := by kernel_rfl) (hnd : ss.Nodup := by decide) : (Code.region id ops false).wp P Q a1 w :=
  wp_region_S n hn ss c (h a1 rfl) hc hss hnd
theorem Cs.eqv {g : Nat} {a b : Array Value} {T : TypeId} (h : Cs w g a T) (e : a = b) : Cs w g b T := e ▸ h
theorem one1 {v : Value} (h : v.oneCell' = true := by rfl) : ∀ u ∈ [v], u.oneCell' = true := by
  intro u hu
  rw [List.mem_singleton] at hu
  rw [hu]
  exact h
theorem ec {x : Operand} {v : Value} {vs : List Value} (h : a.eval x = v) (e : v.cells = vs.toArray := by rfl) : (a.eval x).cells = vs.toArray := by rw [h]; exact e
theorem sB {R : Nat → Prop} {m b : Nat} (hb : Hid (∀ k, R k → k < m)) (h : m ≤ b := by omega) : ∀ k, R k → k = b → False := fun k h1 h2 => by have := hb.out k h1; omega
theorem pz : (∀ a ss, putAll a ss [] = a) ∧ (∀ a s ss v vs, putAll a (s :: ss) (v :: vs) = putAll (a.put (some s) v) ss vs) := ⟨fun a ss => by cases ss <;> rfl, fun _ _ _ _ _ => rfl⟩
theorem QSeq.call {F : FuncId} {xs : Array Operand} {ts : Array TypeId} {args : Array Value} {post : Ending → World → Prop} {fn : Func} (ho : ops[i]? = some o) (hop : o.op = .call { callee := .value (.func F), args := xs, argTypes := ts }) (hf : P.funcs[F]? = some fn)
    (hcl : Calls P F args w post) (ha : ∀ {a}, SqE a0 n ss t a → xs.map a.eval = args) (hp : ∀ e w', post e w' → ∃ v, e = .returned v ∧ QSeq P ops Q a0 n ss c (v :: t) w') (hg : o.guard = none := by rfl) (hn : (fn.name == "runtime.NumGoroutine") = false := by kernel_rfl) (hb : fn.body.isNone = false := by kernel_rfl) : QSeq P ops Q a0 n ss (i :: c) t w :=
  QSeq.go (fun a E => qc_callF ho (wanted_none hg) hop hf (ha E) hcl hp hn hb) ho
end
end Go.Gv

/- SHA-256 in plain words, as the program's own operations spell it; bits.RotateLeft32 and sha.word. -/
namespace Go.Proofs.Ytpnikilkcifncaa
open Go Go.RowKit Go.Gv

abbrev wv (x : Int) : Value := .int .u32 x
/-- a word turned to the right -/
def rr (n : Nat) (x : Int) : Int := bits .or .u32 (IntKind.u32.wrap (x * 2 ^ (32 - n))) (x / 2 ^ n)
def an (a b : Int) : Int := bits .and .u32 a b
def pl (a b : Int) : Int := (a + b) % 4294967296
def wordOf (a b c d : Int) : Int := bits .or .u32 (bits .or .u32 (bits .or .u32 (a % 4294967296 * 16777216 % 4294967296) (b % 4294967296 * 65536 % 4294967296)) (c % 4294967296 * 256 % 4294967296)) (d % 4294967296)

end Go.Proofs.Ytpnikilkcifncaa

/- sha.spread: a block as 64 words. -/
namespace Go.Proofs.Ytpnikilkcifncaa
open Go Go.RowKit Go.Gv

def wAt (bs : List Int) (i : Nat) : Int := wordOf (bs.getD (4 * i) 0) (bs.getD (4 * i + 1) 0) (bs.getD (4 * i + 2) 0) (bs.getD (4 * i + 3) 0)
def w16 (bs : List Int) (i : Nat) : List Int := (List.range i).map (wAt bs) ++ List.replicate (64 - i) 0
/-- an array of words in a block -/
def Ws (T : TypeId) (w : World) (g : Nat) (ws : List Int) : Prop := Cs w g (ws.map wv).toArray T
theorem Ws.cell {T : TypeId} {w : World} {g : Nat} {ws : List Int} (h : Ws T w g ws) {j : Nat} (hj : j < ws.length) : w.cell? ⟨g, j, none⟩ = some (wv (ws.getD j 0)) := by
  rw [Cs.cell h]; simp [List.getD, List.getElem?_eq_getElem hj]
theorem Ws.mod {T : TypeId} {S : Nat → Prop} {w w' : World} {g : Nat} {ws : List Int} (h : Ws T w g ws) (hm : Mod S w w') (hn : ¬ S g) : Ws T w' g ws := Cs.mod h hm hn
theorem Ws.set {T : TypeId} {w : World} {g : Nat} {ws : List Int} (h : Ws T w g ws) (j : Nat) (x : Int) : Ws T (w.setCell ⟨g, j, none⟩ (wv x)) g (ws.set j x) := by
  have := Cs.set h j (wv x)
  unfold Ws
  simpa [List.map_set] using this
theorem Ws.frozen {T : TypeId} {w : World} {g : Nat} {ws : List Int} (h : Ws T w g ws) (j : Nat) : w.frozen? ⟨g, j, none⟩ = false := Cs.frozen h j
end Go.Proofs.Ytpnikilkcifncaa

/- sha.mix: a block goes into the state. -/
namespace Go.Proofs.Ytpnikilkcifncaa
open Go Go.RowKit Go.Gv

theorem upd_ne {L : Nat → Bool} {i j : Nat} (h : j ≠ i) : upd L i j = L j := by simp [upd, h]
theorem upd_eq {L : Nat → Bool} {i : Nat} : upd L i i = true := by simp [upd]
/-- the walk of 'w, s := spread(b), h' -/
structure MixI (w0 : World) (v : Value) (hs F z8 z64 : List Int) (g3 : Nat) (L : Nat → Bool) (vs : List Value) (w : World) : Prop where
  mod : Mod (fun _ => False) w0 w
  b3 : Ws 198 w g3 hs
  v0 : L 0 = true → vs[0]? = some v
  v1 : L 1 = true → vs[1]? = some (.agg (F.map wv).toArray)
  v2 : L 2 = true → vs[2]? = some (.agg (hs.map wv).toArray)
  v3 : L 3 = true → ∃ g, vs[3]? = some (.pointer (some ⟨g, 0, none⟩)) ∧ w0.heap.size ≤ g ∧ Ws 200 w g (if L 5 then F else z64)
  v4 : L 4 = true → ∃ g, vs[4]? = some (.pointer (some ⟨g, 0, none⟩)) ∧ w0.heap.size ≤ g ∧ Ws 198 w g (if L 6 then hs else z8)
  ne : vs[3]? = vs[4]? → L 3 = true → L 4 = true → False
  d5 : L 5 = true → L 3 = true
  d6 : L 6 = true → L 4 = true

theorem MixI.world {w0 w w' : World} {v : Value} {hs F z8 z64 : List Int} {g3 : Nat} {L : Nat → Bool} {vs : List Value} (h : MixI w0 v hs F z8 z64 g3 L vs w) (hm : Mod (fun _ => False) w w') : MixI w0 v hs F z8 z64 g3 L vs w' :=
  ⟨h.mod.trans hm (fun _ _ h => h), h.b3.mod hm (fun h => h), h.v0, h.v1, h.v2,
    fun hL => by obtain ⟨g, h1, h2, h3⟩ := h.v3 hL; exact ⟨g, h1, h2, h3.mod hm (fun h => h)⟩,
    fun hL => by obtain ⟨g, h1, h2, h3⟩ := h.v4 hL; exact ⟨g, h1, h2, h3.mod hm (fun h => h)⟩, h.ne, h.d5, h.d6⟩
/-- a value at a place below the pointers -/
theorem MixI.val {w0 w : World} {v : Value} {hs F z8 z64 : List Int} {g3 : Nat} {L : Nat → Bool} {vs : List Value} (h : MixI w0 v hs F z8 z64 g3 L vs w) (hl : vs.length = 5) (i : Nat) (hi : i < 3) (x : Value)
    (hx : x = [v, .agg (F.map wv).toArray, .agg (hs.map wv).toArray].getD i undef) : MixI w0 v hs F z8 z64 g3 (upd L i) (vs.set i x) w := by
  subst hx
  have e : ∀ k, k ≠ i → (vs.set i ([v, .agg (F.map wv).toArray, .agg (hs.map wv).toArray].getD i undef))[k]? = vs[k]? := fun k hk => List.getElem?_set_ne (Ne.symm hk)
  have e' : (vs.set i ([v, .agg (F.map wv).toArray, .agg (hs.map wv).toArray].getD i undef))[i]? = some ([v, .agg (F.map wv).toArray, .agg (hs.map wv).toArray].getD i undef) := List.getElem?_set_self (by omega)
  refine ⟨h.mod, h.b3, fun hL => ?_, fun hL => ?_, fun hL => ?_, fun hL => ?_, fun hL => ?_, fun h1 h2 h3 => ?_, fun h1 => ?_, fun h1 => ?_⟩
  · by_cases hk : 0 = i
    · subst hk; rw [e']; rfl
    · rw [upd_ne hk] at hL; rw [e 0 hk]; exact h.v0 hL
  · by_cases hk : 1 = i
    · subst hk; rw [e']; rfl
    · rw [upd_ne hk] at hL; rw [e 1 hk]; exact h.v1 hL
  · by_cases hk : 2 = i
    · subst hk; rw [e']; rfl
    · rw [upd_ne hk] at hL; rw [e 2 hk]; exact h.v2 hL
  · rw [upd_ne (by omega)] at hL; rw [e 3 (by omega), upd_ne (show 5 ≠ i by omega)]; exact h.v3 hL
  · rw [upd_ne (by omega)] at hL; rw [e 4 (by omega), upd_ne (show 6 ≠ i by omega)]; exact h.v4 hL
  · rw [e 3 (by omega), e 4 (by omega)] at h1
    rw [upd_ne (by omega)] at h2 h3
    exact h.ne h1 h2 h3
  · rw [upd_ne (by omega)] at h1 ⊢; exact h.d5 h1
  · rw [upd_ne (by omega)] at h1 ⊢; exact h.d6 h1
theorem ptr_inj {g g' : Nat} (h : Value.pointer (some ⟨g, 0, none⟩) = Value.pointer (some ⟨g', 0, none⟩)) : g = g' := by simpa using h
section
variable {w0 w : World} {v : Value} {hs F z8 z64 : List Int} {g3 : Nat} {L : Nat → Bool} {vs : List Value}
theorem MixI.st (h : MixI w0 v hs F z8 z64 g3 L vs w) (h30 : g3 < w0.heap.size) (i : Nat) (hi : i = 5 ∨ i = 6) {w' : World} {g : Nat} (hg : vs[i - 2]? = some (.pointer (some ⟨g, 0, none⟩))) (hg0 : w0.heap.size ≤ g) (hL3 : L (i - 2) = true)
    (hm : Mod (fun k => k = g) w w') (h5 : i = 5 → Ws 200 w' g F) (h6 : i = 6 → Ws 198 w' g hs) : MixI w0 v hs F z8 z64 g3 (upd L i) vs w' := by
  refine ⟨h.mod.trans hm (fun k hk e => by omega), h.b3.mod hm (by omega), fun q => ?_, fun q => ?_, fun q => ?_, fun q => ?_, fun q => ?_, fun h1 h2 h3 => ?_, fun q => ?_, fun q => ?_⟩
  · rw [upd_ne (by omega)] at q; exact h.v0 q
  · rw [upd_ne (by omega)] at q; exact h.v1 q
  · rw [upd_ne (by omega)] at q; exact h.v2 q
  · rw [upd_ne (by omega)] at q
    obtain ⟨g', a1, a2, a3⟩ := h.v3 q
    refine ⟨g', a1, a2, ?_⟩
    rcases hi with rfl | rfl
    · rw [a1] at hg
      obtain rfl := ptr_inj (Option.some.inj hg)
      rw [upd_eq]
      exact h5 rfl
    · rw [upd_ne (by omega)]
      refine a3.mod hm (fun e => ?_)
      subst e
      exact h.ne (a1.trans hg.symm) q hL3
  · rw [upd_ne (by omega)] at q
    obtain ⟨g', a1, a2, a3⟩ := h.v4 q
    refine ⟨g', a1, a2, ?_⟩
    rcases hi with rfl | rfl
    · rw [upd_ne (by omega)]
      refine a3.mod hm (fun e => ?_)
      subst e
      exact h.ne (hg.trans a1.symm) hL3 q
    · rw [a1] at hg
      obtain rfl := ptr_inj (Option.some.inj hg)
      rw [upd_eq]
      exact h6 rfl
  · rw [upd_ne (by omega)] at h2 h3; exact h.ne h1 h2 h3
  · rcases hi with rfl | rfl
    · rw [upd_ne (by omega)]; exact hL3
    · rw [upd_ne (by omega)] at q ⊢; exact h.d5 q
  · rcases hi with rfl | rfl
    · rw [upd_ne (by omega)] at q ⊢; exact h.d6 q
    · rw [upd_ne (by omega)]; exact hL3
end

/-- what stands in memory while a block is mixed -/
structure MixO (w0 : World) (hs ks F z8 s : List Int) (g7 g8 : Nat) (w : World) : Prop where
  k3 : Ws 198 w w0.heap.size hs
  k4 : Ws 200 w (w0.heap.size + 1) ks
  k6 : Ws 198 w (w0.heap.size + 1 + 1) z8
  k7 : Ws 200 w g7 F
  k8 : Ws 198 w g8 s
  m : Mod (fun _ => False) w0 w
theorem MixO.mod {w0 w w' : World} {hs ks F z8 s : List Int} {g7 g8 : Nat} (h : MixO w0 hs ks F z8 s g7 g8 w) (hm : Mod (fun _ => False) w w') : MixO w0 hs ks F z8 s g7 g8 w' :=
  ⟨h.k3.mod hm (fun h => h), h.k4.mod hm (fun h => h), h.k6.mod hm (fun h => h), h.k7.mod hm (fun h => h), h.k8.mod hm (fun h => h), h.m.trans hm (fun _ _ h => h)⟩
/-- the state is written anew -/
theorem MixO.put {w0 w w' : World} {hs ks F z8 s s' : List Int} {g7 g8 : Nat} (h : MixO w0 hs ks F z8 s g7 g8 w) (h8 : w0.heap.size + 3 ≤ g8) (hne : g7 ≠ g8) (hm : Mod (fun k => k = g8) w w') (hs' : Ws 198 w' g8 s') : MixO w0 hs ks F z8 s' g7 g8 w' :=
  ⟨h.k3.mod hm (by omega), h.k4.mod hm (by omega), h.k6.mod hm (by omega), h.k7.mod hm hne, hs', h.m.trans hm (fun k hk e => by omega)⟩
end Go.Proofs.Ytpnikilkcifncaa

/- The rounds' numbers; an element of an array value; SHA-256 in plain words. -/
namespace Go.Proofs.Ytpnikilkcifncaa
open Go Go.RowKit Go.Gv

end Go.Proofs.Ytpnikilkcifncaa

/- gavellaw01.Act: a call, as an argument holds it. -/
namespace Go.Proofs.Ytpnikilkcifncaa
open Go Go.RowKit Go.Gv Go.ChangeShapes Go.WideShapes Go.ChangeAt Go.Deep

structure Act01 where
  Do : Int
  N : Int
  U : Nat
  VB : Value
  B : List Int
  H : List Int
instance : Inhabited Act01 := ⟨⟨0, 0, 0, .slice none 0 0, [], List.replicate 32 0⟩⟩
def Act01.tail (a : Act01) : List Value := (List.range 32).map fun i => bv (a.H.getD i 0)
def Act01.cells (a : Act01) : List Value := .int .i64 a.Do :: .int .i64 a.N :: .int .u64 a.U :: a.VB :: a.tail
structure Act01.Ok (W : World) (a : Act01) : Prop where
  d : -9223372036854775808 ≤ a.Do ∧ a.Do ≤ 9223372036854775807
  n : -9223372036854775808 ≤ a.N ∧ a.N ≤ 9223372036854775807
  u : a.U < U64
  b : RdR (fun k => k < W.heap.size) a.B.length W a.VB a.B
  h : a.H.length = 32
  hb : Bytes a.H
theorem Act01.len (a : Act01) : a.cells.length = 36 := by simp [Act01.cells, Act01.tail]
end Go.Proofs.Ytpnikilkcifncaa

/- gavelref01: numbers and rows as bytes. -/
namespace Go.Proofs.Ytpnikilkcifncaa
open Go Go.RowKit Go.Gv

/-- the blocks of what an append gave: those before, or new ones since w -/
theorem AppB.trans {w0 w w' : World} {v v' : Value} {bs : List Int} (h : AppB w v bs v' w') (hm : Mod (fun _ => False) w0 w) (hf : Fresh w0 v) : Mod (fun _ => False) w0 w' ∧ Fresh w0 v' := by
  obtain ⟨h1, h2, h3⟩ := h
  refine ⟨hm.trans h2 (fun i hi hk => by have := hf i hk.symm; omega), fun g hg => ?_⟩
  rcases h3 with h3 | ⟨k, h3, hk⟩
  · exact hf g (h3 ▸ hg)
  · rw [h3] at hg
    obtain rfl : k = g := by simpa using hg
    exact Nat.le_trans hm.size hk

end Go.Proofs.Ytpnikilkcifncaa

/- Local copies of an Act; lent texts with their blocks. -/
namespace Go.Proofs.Ytpnikilkcifncaa
open Go Go.RowKit Go.Gv

section
variable {α : Type} {s : Nat} {cells : α → List Value} {R R' S : Nat → Prop} {w w' : World} {v : Value} {l : List α}
theorem RdE.shape (h : RdE s cells R w v l) : ∃ ao cap, v = .slice ao l.length cap ∧ l.length ≤ maxLen := by
  rcases h with ⟨rfl, ao, cap, rfl⟩ | ⟨g, o, cap, _, rfl, _, h1, h2, _⟩
  · exact ⟨ao, cap, rfl, by simp⟩
  · exact ⟨_, cap, rfl, by omega⟩
theorem RdE.at {ao : Option Addr} {n cap : Nat} (h : RdE s cells R w (.slice ao n cap) l) {i : Nat} (hi : i < l.length) :
    ∃ g o, ao = some ⟨g, o, none⟩ ∧ ∀ j u, (cells l[i])[j]? = some u → w.cell? ⟨g, o + i * s + j, none⟩ = some u := by
  rcases h with ⟨rfl, _⟩ | ⟨g, o, cap', _, e, _, _, _, h6⟩
  · exact absurd hi (by simp)
  · simp only [Value.slice.injEq] at e
    exact ⟨g, o, e.1, fun j u => h6 i hi j u⟩
theorem RdE.widen (h : RdE s cells R w v l) (hs : ∀ k, R k → R' k) : RdE s cells R' w v l := by
  rcases h with h | ⟨g, o, cap, h1, h2⟩
  · exact .inl h
  · exact .inr ⟨g, o, cap, hs g h1, h2⟩
end

section
variable {R R' S : Nat → Prop} {w w' : World} {g : Nat} {a : Act01}
end
theorem Act01.one {W : World} {a : Act01} (h : a.Ok W) : ∀ u ∈ a.cells, u.oneCell' = true := by
  intro u hu
  obtain ⟨ao, cap, e⟩ := h.b.shape
  simp only [Act01.cells, Act01.tail, List.mem_cons, List.mem_map] at hu
  rcases hu with rfl | rfl | rfl | rfl | ⟨i, _, rfl⟩
  · rfl
  · rfl
  · rfl
  · rw [e]; rfl
  · rfl
/-- a lent text with its block -/
def LentR (R : Nat → Prop) (N : Nat) (w : World) (v : Value) (bs : List Int) : Prop := Lent w v bs ∧ (∀ g, v.ownBlock = some g → R g) ∧ Bytes bs ∧ bs.length ≤ N ∧ N ≤ 1000000
section
variable {R R' S : Nat → Prop} {N M : Nat} {w w' : World} {v : Value} {bs : List Int}
theorem LentR.mod (h : LentR R N w v bs) (hm : Mod S w w') (hs : ∀ k, R k → S k → False) : LentR R N w' v bs := by
  obtain ⟨⟨g, rfl, hc⟩, h2, h3⟩ := h
  exact ⟨⟨g, rfl, hc.mod hm (hs g (h2 g rfl))⟩, h2, h3⟩
theorem LentR.widen (h : LentR R N w v bs) (hs : ∀ k, R k → R' k) (_hM : N ≤ N) : LentR R' N w v bs := ⟨h.1, fun g hg => hs g (h.2.1 g hg), h.2.2⟩
theorem LentR.rd (h : LentR R N w v bs) : RdR R N w v bs := by
  obtain ⟨⟨g, rfl, hc⟩, h2, h3, h4, h5⟩ := h
  refine ⟨⟨h3, ?_⟩, fun _ => h2, h4⟩
  refine Rd.mk (by omega) (by rw [maxLen_val]; omega) (by simp) fun j u hu => ?_
  rw [Nat.zero_add, hc.cell]
  have hj : j < bs.length := by have := (List.getElem?_eq_some_iff.1 hu).1; simpa using this
  simp only [List.getElem?_map, List.getElem?_toArray] at hu ⊢
  rw [← hu]
  congr 1
  unfold lendc
  rw [List.getElem?_append_left hj]
end
end Go.Proofs.Ytpnikilkcifncaa

/- What calls write, what is read of it, what is read of a strict beginning of it. -/
namespace Go.Proofs.Ytpnikilkcifncaa
open Go Go.RowKit Go.Gv

/-- the state of a reader that has less than all of `full` ahead -/
def SP (s : RSt) (full : List Int) : Prop := s = none ∨ ∃ t, s = some t ∧ t <+: full ∧ t.length < full.length

theorem SP.nil {s : RSt} (h : SP s []) : s = none := by
  rcases h with h | ⟨t, _, _, h⟩
  · exact h
  · simp at h
theorem SP.cut {t a rest : List Int} (h1 : t <+: a ++ rest) (h2 : t.length < (a ++ rest).length) : (t <+: a ∧ t.length < a.length) ∨ ∃ t', t = a ++ t' ∧ SP (some t') rest := by
  rcases Nat.lt_or_ge t.length a.length with h | h
  · exact .inl ⟨List.prefix_of_prefix_length_le h1 (List.prefix_append a rest) (by omega), h⟩
  · obtain ⟨t', rfl⟩ := List.prefix_of_prefix_length_le (List.prefix_append a rest) h1 h
    refine .inr ⟨t', rfl, .inr ⟨t', rfl, (List.prefix_append_right_inj a).1 h1, by simpa using h2⟩⟩

theorem dec_pre : ∀ (m i acc : Nat) (t : List Int), t <+: encN m → t.length < (encN m).length → decGo i acc t = none := by
  intro m
  induction m using Nat.strongRecOn with
  | _ m ih =>
    intro i acc t h1 h2
    by_cases hm : m < 128
    · rw [encN_lt hm] at h2
      obtain rfl : t = [] := List.eq_nil_of_length_eq_zero (by simpa using h2)
      rfl
    · rw [encN_ge (by omega)] at h1 h2
      cases t with
      | nil => rfl
      | cons c t =>
        obtain ⟨rfl, h1'⟩ := List.cons_prefix_cons.1 h1
        simp only [decGo]
        split
        · rfl
        · rw [if_neg (by omega)]
          exact ih (m / 128) (by omega) _ _ t h1' (by simpa using h2)

theorem SP.num {s : RSt} {n : Nat} {rest : List Int} (hn : n < U64) (h : SP s (encN n ++ rest)) : SP (rNum s).2 rest ∧ ((rNum s).2.isSome → (rNum s).1 = n) := by
  rcases h with rfl | ⟨t, rfl, h1, h2⟩
  · exact ⟨.inl rfl, by simp⟩
  · rcases SP.cut h1 h2 with ⟨h3, h4⟩ | ⟨t', rfl, h5⟩
    · have := dec_pre n 0 0 t h3 h4
      simp [rNum, this, SP]
    · rw [rNum_enc hn]
      exact ⟨h5, fun _ => rfl⟩
theorem SP.int {s : RSt} {n : Nat} {rest : List Int} (most : Int) (hn : n < U64) (h : SP s (encN n ++ rest)) : SP (rInt most s).2 rest ∧ ((rInt most s).2.isSome → (rInt most s).1 = n) := by
  have := h.num hn
  unfold rInt
  split
  · exact ⟨.inl rfl, by simp⟩
  · exact this
theorem SP.take {s : RSt} {a rest : List Int} (h : SP s (a ++ rest)) : SP (rTake a.length s).2 rest := by
  rcases h with rfl | ⟨t, rfl, h1, h2⟩
  · exact .inl rfl
  · rcases SP.cut h1 h2 with ⟨h3, h4⟩ | ⟨t', rfl, h5⟩
    · simp [rTake, h4, SP]
    · rw [rTake_app rfl]; exact h5
theorem SP.row {s : RSt} {bs rest : List Int} (most : Int) (hb : bs.length < U64) (h : SP s (encN bs.length ++ bs ++ rest)) : SP (rRow most s).2 rest := by
  rw [List.append_assoc] at h
  have h1 := h.int most hb
  unfold rRow
  cases hs : (rInt most s).2 with
  | none => exact .inl rfl
  | some u =>
    rw [h1.2 (by simp [hs]), ← hs]
    exact h1.1.take
theorem SP.hash {s : RSt} {hh rest : List Int} (hl : hh.length = 32) (h : SP s (hh ++ rest)) : SP (rHash s).2 rest := by
  have h1 := h.take
  rw [hl] at h1
  unfold rHash
  generalize rTake 32 s = q at *
  rcases q with ⟨b, _ | x⟩
  · exact .inl rfl
  · exact h1

section
variable {nm : Int} {row : Nat} {a : Act01}
end
end Go.Proofs.Ytpnikilkcifncaa

/- Slices of one-cell values (numbers, slices) that are appended to; an Act's fields in the slice itself. -/
namespace Go.Proofs.Ytpnikilkcifncaa
open Go Go.RowKit Go.Gv

def OwV (e : TypeId) (R : Nat → Prop) (N : Nat) (w : World) (v : Value) (cs : List Value) : Prop := Own (fun u => u.oneCell' = true) e 1 w v cs.length cs ∧ (∀ g, v.ownBlock = some g → R g) ∧ cs.length ≤ N
section
variable {e : TypeId} {R R' S : Nat → Prop} {N M : Nat} {w w' : World} {v : Value} {cs : List Value}
theorem OwV.mod (h : OwV e R N w v cs) (hm : Mod S w w') (hs : ∀ k, R k → S k → False) : OwV e R N w' v cs := ⟨Own.mod h.1 hm (fun g hg hS => hs g (h.2.1 g hg) hS), h.2⟩
theorem OwV.widen (h : OwV e R N w v cs) (hs : ∀ k, R k → R' k) (hM : N ≤ M) : OwV e R' M w v cs := ⟨h.1, fun g hg => hs g (h.2.1 g hg), Nat.le_trans h.2.2 hM⟩
theorem OwV.nil (e : TypeId) (R : Nat → Prop) (w : World) : OwV e R 0 w (.slice none 0 0) [] := ⟨Own.nil _ _ _ _, (fun g hg => by cases hg), Nat.le_refl _⟩
theorem OwV.shape (h : OwV e R N w v cs) : ∃ ao cap, v = .slice ao cs.length cap := Own.shape h.1
theorem OwV.at {ao : Option Addr} {n cap : Nat} (h : OwV e R N w (.slice ao n cap) cs) {i : Nat} (hi : i < cs.length) :
    ∃ g, ao = some ⟨g, 0, none⟩ ∧ ∀ j u, cs[j]? = some u → w.cell? ⟨g, j, none⟩ = some u := by
  obtain ⟨hl, _, ⟨hv, hn⟩ | ⟨g, cap', cur, hv, hg, h1, h2, h3, h4, _⟩⟩ := h.1
  · omega
  · simp only [Value.slice.injEq] at hv
    refine ⟨g, hv.1, fun j u hu => ?_⟩
    rw [hg.cell]
    have hj : j < cs.length := (List.getElem?_eq_some_iff.1 hu).1
    rw [← h4, List.getElem?_take, if_pos (by omega)] at hu
    simpa using hu
end
section
variable {R : Nat → Prop} {w : World} {g o n cap i : Nat} {l : List Act01} {a : Act01}
end
end Go.Proofs.Ytpnikilkcifncaa

/- How long a number is; a number that is written longer; a text whose last byte is turned. -/
namespace Go.Proofs.Ytpnikilkcifncaa
open Go Go.RowKit Go.Gv

theorem OwR.last {R : Nat → Prop} {N : Nat} {w : World} {v : Value} {ini : List Int} {d : Int} (h : OwR R N w v (ini ++ [d])) :
    ∃ g cap, v = .slice (some ⟨g, 0, none⟩) (ini.length + 1) cap ∧ R g ∧ g < w.heap.size ∧ w.cell? ⟨g, ini.length, none⟩ = some (bv d) ∧ w.frozen? ⟨g, ini.length, none⟩ = false ∧
      ∀ y : Int, 0 ≤ y → y < 256 → OwR R N (w.setCell ⟨g, ini.length, none⟩ (bv y)) v (ini ++ [y]) := by
  obtain ⟨h1, h2, h3⟩ := h
  have hby := h1.bytes
  obtain ⟨hl, hE, ⟨rfl, hn⟩ | ⟨g, cap, cur, rfl, hc, q1, q2, q3, q4, q5⟩⟩ := h1
  · simp at hn
  · have q3' : cap ≤ cur.size := by omega
    have hlen : (ini ++ [d]).length = ini.length + 1 := by simp
    rw [hlen] at q1 q4 hl
    refine ⟨g, cap, by rw [hlen], h2 g rfl, hc.lt, ?_, hc.frozen _, fun y h0 hy => ⟨?_, h2, by simpa using h3⟩⟩
    · rw [hc.cell]
      have : cur.toList[ini.length]? = some (bv d) := by
        have e : (cur.toList.take ((ini.length + 1) * 1))[ini.length]? = ((ini ++ [d]).map bv)[ini.length]? := by rw [q4]
        rw [List.getElem?_take, if_pos (by omega)] at e
        rw [e]; simp
      simpa using this
    · refine ⟨by simp, ?_, .inr ⟨g, cap, cur.setIfInBounds ini.length (bv y), by simp, hc.set ini.length (bv y), by simpa using q1, q2, by simpa using q3, ?_, ?_⟩⟩
      · refine isB_all ?_
        intro x hx
        rcases List.mem_append.1 hx with h | h
        · exact hby x (List.mem_append_left _ h)
        · simp at h; subst h; exact ⟨h0, hy⟩
      · rw [Array.toList_setIfInBounds]
        have e2 : (ini ++ [y]).length * 1 = (ini.length + 1) * 1 := by simp
        rw [e2, List.take_set, q4, List.map_append, List.map_append]
        rw [List.set_append_right _ _ (by simp)]
        simp
      · intro u hu
        rw [Array.toList_setIfInBounds] at hu
        rcases List.mem_or_eq_of_mem_set hu with h | h
        · exact q5 u h
        · exact ⟨y, h, h0, hy⟩

end Go.Proofs.Ytpnikilkcifncaa

/- sha.Sum. -/
namespace Go.Proofs.Ytpnikilkcifncaa
open Go Go.RowKit Go.Gv

def padded (bs : List Int) (j : Nat) : List Int := bs ++ [128] ++ List.replicate j 0
def lenOf : Value → Nat
  | .slice _ n _ => n
  | _ => 0
structure SumO (w0 : World) (h : List Int) (w : World) : Prop where
  k2 : Cs w w0.heap.size ((List.replicate 32 0).map bv).toArray 32
  k3 : Ws 198 w (w0.heap.size + 1) h
  m : Mod (fun _ => False) w0 w
theorem SumO.mod {S : Nat → Prop} {w0 w w' : World} {h : List Int} (o : SumO w0 h w) (hm : Mod S w w') (hS : ∀ k, S k → w0.heap.size + 2 ≤ k) : SumO w0 h w' :=
  ⟨o.k2.mod hm (fun q => by have := hS _ q; omega), o.k3.mod hm (fun q => by have := hS _ q; omega), o.m.trans hm (fun k hk q => by have := hS _ q; omega)⟩
theorem SumO.put {w0 w w' : World} {h h' : List Int} (o : SumO w0 h w) (hm : Mod (fun k => k = w0.heap.size + 1) w w') (hs : Ws 198 w' (w0.heap.size + 1) h') : SumO w0 h' w' :=
  ⟨o.k2.mod hm (by omega), hs, o.m.trans hm (fun k hk q => by omega)⟩
/-- the padded bytes, in blocks of their own -/
def FulO (w0 : World) (w : World) (v : Value) (bs : List Int) : Prop := OwR (fun k => w0.heap.size + 2 ≤ k) bs.length w v bs
theorem FulO.mod {S : Nat → Prop} {w0 w w' : World} {v : Value} {bs : List Int} (o : FulO w0 w v bs) (hm : Mod S w w') (hS : ∀ k, S k → k < w0.heap.size + 2) : FulO w0 w' v bs := OwR.mod o hm (fun k h1 h2 => by have := hS k h2; omega)

end Go.Proofs.Ytpnikilkcifncaa

/- A writer that a region fills, one call behind the other: the state for wp_region_G. -/
namespace Go.Proofs.Ytpnikilkcifncaa
open Go Go.RowKit Go.Gv

end Go.Proofs.Ytpnikilkcifncaa

/- commit.Of. -/
namespace Go.Proofs.Ytpnikilkcifncaa
open Go Go.RowKit Go.Gv

def I64 (n : Int) : Prop := -9223372036854775808 ≤ n ∧ n ≤ 9223372036854775807
end Go.Proofs.Ytpnikilkcifncaa

/- commit.Text. -/
namespace Go.Proofs.Ytpnikilkcifncaa
open Go Go.RowKit Go.Gv

/-- a commitment -/
structure Cm where
  cl : Int
  sq : Int
  h : List Int
  ln : Int
  sb : Int
  mr : Int
def Cm.cells (c : Cm) : List Value := [.int .i64 c.cl, .int .i64 c.sq] ++ (c.h.map bv ++ [.int .i64 c.ln, .int .i64 c.sb, .int .i64 c.mr])
def Cm.val (c : Cm) : Value := .agg c.cells.toArray
/-- its numbers are numbers, its hash is one -/
def Cm.OK (c : Cm) : Prop := (I64 c.cl ∧ I64 c.sq ∧ I64 c.ln ∧ I64 c.sb ∧ I64 c.mr) ∧ c.h.length = 32 ∧ Bytes c.h
theorem Cm.len {c : Cm} (h : c.h.length = 32) : c.cells.length = 37 := by simp [Cm.cells, h]
theorem size_commit : (Try.prog.info? 36).map (·.size) = some 37 := by kernel_rfl
section
variable {w : World} {g : Nat} {c : Cm} {T : TypeId}
end
end Go.Proofs.Ytpnikilkcifncaa
namespace Go.Gv
open Go Go.RowKit Go.Proofs.Ytpnikilkcifncaa
section
variable {w : World} {g : Nat} {c : Cm} {T : TypeId}
theorem Cs.c0 (h : Cs w g c.cells.toArray T) : w.cell? ⟨g, 0, none⟩ = some (.int .i64 c.cl) := by rw [h.cell]; rfl
theorem Cs.c1 (h : Cs w g c.cells.toArray T) : w.cell? ⟨g, 1, none⟩ = some (.int .i64 c.sq) := by rw [h.cell]; rfl
theorem Cs.far (h : Cs w g c.cells.toArray T) (hl : c.h.length = 32) (j : Nat) : w.cell? ⟨g, 34 + j, none⟩ = ([Value.int .i64 c.ln, .int .i64 c.sb, .int .i64 c.mr] : List Value)[j]? := by
  rw [h.cell]
  simp only [List.getElem?_toArray, Cm.cells]
  rw [List.getElem?_append_right (by simp; omega), List.getElem?_append_right (by simp [hl]; omega)]
  simp only [List.length_cons, List.length_nil, List.length_map, hl]
  congr 1
  omega
theorem Cs.c34 (h : Cs w g c.cells.toArray T) (hl : c.h.length = 32) : w.cell? ⟨g, 34, none⟩ = some (.int .i64 c.ln) := Cs.far h hl 0
theorem Cs.hash (h : Cs w g c.cells.toArray T) : ∀ j u, (c.h.map bv)[j]? = some u → w.cell? ⟨g, 2 + j, none⟩ = some u := by
  intro j u hu
  rw [h.cell]
  simp only [List.getElem?_toArray, Cm.cells]
  rw [List.getElem?_append_right (by simp), List.getElem?_append_left (by simpa using (List.getElem?_eq_some_iff.1 hu).1)]
  simpa using hu
theorem Cs.name (h : Cs w g c.cells.toArray T) : ∀ j u, ([Value.int .i64 c.cl, .int .i64 c.sq] : List Value)[j]? = some u → w.cell? ⟨g, 0 + j, none⟩ = some u := by
  intro j u hu
  rw [Nat.zero_add, h.cell]
  simp only [List.getElem?_toArray, Cm.cells]
  rw [List.getElem?_append_left (List.getElem?_eq_some_iff.1 hu).1]
  exact hu
theorem Cs.sig (h : Cs w g c.cells.toArray T) (hl : c.h.length = 32) : ∀ j u, ([Value.int .i64 c.sb, .int .i64 c.mr] : List Value)[j]? = some u → w.cell? ⟨g, 35 + j, none⟩ = some u := by
  intro j u hu
  have := Cs.far h hl (1 + j)
  rw [show 34 + (1 + j) = 35 + j by omega] at this
  rw [this, Nat.add_comm]
  exact hu
theorem Cs.whole {cs : List Value} (h : Cs w g cs.toArray T) : ∀ j u, cs[j]? = some u → w.cell? ⟨g, 0 + j, none⟩ = some u := by
  intro j u hu
  rw [Nat.zero_add, h.cell]
  simpa using hu
end
end Go.Gv
namespace Go.Proofs.Ytpnikilkcifncaa
open Go Go.RowKit Go.Gv
end Go.Proofs.Ytpnikilkcifncaa

/- Hashes as keys of maps; zeros. -/
namespace Go.Proofs.Ytpnikilkcifncaa
open Go Go.RowKit Go.Gv
open Go.Maps (Keyed)

/-- a hash -/
def HK (bs : List Int) : Prop := bs.length = 32 ∧ Bytes bs
end Go.Proofs.Ytpnikilkcifncaa

/- The kinds of things that messages are made of: their cells, what reads as one. -/
namespace Go.Proofs.Ytpnikilkcifncaa
open Go Go.RowKit Go.Gv

/-- a stamp, or an ack -/
structure St where
  rp : Int
  cl : Int
  sq : Int
  h : List Int
  tm : Nat
  sb : Int
  mr : Int
abbrev St.cells (x : St) : List Value := [.int .i64 x.rp, .int .i64 x.cl, .int .i64 x.sq] ++ (x.h.map bv ++ [.int .u64 (x.tm : Nat), .int .i64 x.sb, .int .i64 x.mr])
abbrev St.val (x : St) : Value := .agg x.cells.toArray
structure St.OK (x : St) : Prop where
  rp : I64 x.rp
  cl : I64 x.cl
  sq : I64 x.sq
  h : HK x.h
  tm : x.tm < U64
  sb : I64 x.sb
  mr : I64 x.mr
theorem St.len {x : St} (h : x.OK) : x.cells.length = 38 := by simp [St.cells, h.h.1]
theorem St.one (x : St) : ∀ u ∈ x.cells, u.oneCell' = true := by
  intro u hu
  simp only [St.cells, List.mem_append, List.mem_cons, List.not_mem_nil, or_false, List.mem_map] at hu
  rcases hu with (rfl | rfl | rfl) | ⟨y, -, rfl⟩ | rfl | rfl | rfl <;> rfl
def StR : Rep St := Rep.flat 38 (by decide) St.cells St.OK (fun a h => St.len h) (fun a _ => St.one a)
/-- a vote -/
structure Vt where
  kd : Int
  ep : Int
  rd : Int
  rp : Int
  h : List Int
  sb : Int
  mr : Int
abbrev Vt.cells (x : Vt) : List Value := [.int .i64 x.kd, .int .i64 x.ep, .int .i64 x.rd, .int .i64 x.rp] ++ (x.h.map bv ++ [.int .i64 x.sb, .int .i64 x.mr])
abbrev Vt.val (x : Vt) : Value := .agg x.cells.toArray
structure Vt.OK (x : Vt) : Prop where
  kd : I64 x.kd
  ep : I64 x.ep
  rd : I64 x.rd
  rp : I64 x.rp
  h : HK x.h
  sb : I64 x.sb
  mr : I64 x.mr
theorem Vt.len {x : Vt} (h : x.OK) : x.cells.length = 38 := by simp [Vt.cells, h.h.1]
theorem Vt.one (x : Vt) : ∀ u ∈ x.cells, u.oneCell' = true := by
  intro u hu
  simp only [Vt.cells, List.mem_append, List.mem_cons, List.not_mem_nil, or_false, List.mem_map] at hu
  rcases hu with (rfl | rfl | rfl | rfl) | ⟨y, -, rfl⟩ | rfl | rfl <;> rfl
def VtR : Rep Vt := Rep.flat 38 (by decide) Vt.cells Vt.OK (fun a h => Vt.len h) (fun a _ => Vt.one a)
/-- a denial -/
structure Dn where
  rp : Int
  ix : Int
  sb : Int
  mr : Int
abbrev Dn.cells (x : Dn) : List Value := [.int .i64 x.rp, .int .i64 x.ix, .int .i64 x.sb, .int .i64 x.mr]
abbrev Dn.val (x : Dn) : Value := .agg x.cells.toArray
structure Dn.OK (x : Dn) : Prop where
  rp : I64 x.rp
  ix : I64 x.ix
  sb : I64 x.sb
  mr : I64 x.mr
theorem Dn.len {x : Dn} (h : x.OK) : x.cells.length = 4 := by rfl
theorem Dn.one (x : Dn) : ∀ u ∈ x.cells, u.oneCell' = true := by
  intro u hu
  simp only [Dn.cells, List.mem_cons, List.not_mem_nil, or_false] at hu
  rcases hu with rfl | rfl | rfl | rfl <;> rfl
def DnR : Rep Dn := Rep.flat 4 (by decide) Dn.cells Dn.OK (fun a h => Dn.len h) (fun a _ => Dn.one a)
/-- an entry -/
structure En where
  cl : Int
  sq : Int
  h : List Int
  tm : Nat
abbrev En.cells (x : En) : List Value := [.int .i64 x.cl, .int .i64 x.sq] ++ (x.h.map bv ++ [.int .u64 (x.tm : Nat)])
abbrev En.val (x : En) : Value := .agg x.cells.toArray
structure En.OK (x : En) : Prop where
  cl : I64 x.cl
  sq : I64 x.sq
  h : HK x.h
  tm : x.tm < U64
theorem En.len {x : En} (h : x.OK) : x.cells.length = 35 := by simp [En.cells, h.h.1]
theorem En.one (x : En) : ∀ u ∈ x.cells, u.oneCell' = true := by
  intro u hu
  simp only [En.cells, List.mem_append, List.mem_cons, List.not_mem_nil, or_false, List.mem_map] at hu
  rcases hu with (rfl | rfl) | ⟨y, -, rfl⟩ | rfl <;> rfl
def EnR : Rep En := Rep.flat 35 (by decide) En.cells En.OK (fun a h => En.len h) (fun a _ => En.one a)

theorem RdR_keep {R : Nat → Prop} {N : Nat} {w w' : World} {v : Value} {bs : List Int} (h : RdR R N w v bs) (hk : ∀ p u, R p.block → w.cell? p = some u → w'.cell? p = some u) : RdR R N w' v bs :=
  ⟨⟨h.1.1, h.1.2.keepc fun h0 g hg p u hp hc => hk p u (hp ▸ h.2.1 h0 g hg) hc⟩, h.2⟩
theorem RdR_tight {R : Nat → Prop} {N : Nat} {w : World} {v : Value} {bs : List Int} (h : RdR R N w v bs) : RdR (fun k => R k ∧ k < w.heap.size) N w v bs :=
  ⟨h.1, fun h0 g hg => ⟨h.2.1 h0 g hg, h.1.2.lt (by decide) h0 hg⟩, h.2.2⟩
theorem Cm_one (c : Cm) : ∀ u ∈ c.cells, u.oneCell' = true := by
  intro u hu
  simp only [Cm.cells, List.mem_append, List.mem_cons, List.not_mem_nil, or_false, List.mem_map] at hu
  rcases hu with (rfl | rfl) | ⟨x, -, rfl⟩ | rfl | rfl | rfl <;> rfl
def CmR : Rep Cm := Rep.flat 37 (by decide) Cm.cells Cm.OK (fun a h => Cm.len h.2.1) (fun a _ => Cm_one a)
/-- a certificate -/
structure Ce where
  c : Cm
  l : List St
abbrev Ce.cells (x : Ce) (v_l : Value) : List Value := x.c.cells ++ [v_l]
def Ce.OK (x : Ce) : Prop := x.c.OK
def Ce.rd (R : Nat → Prop) (w : World) (cs : List Value) (x : Ce) : Prop := ∃ v_l, cs = x.cells v_l ∧ x.OK ∧ RdS StR R w v_l x.l
def CeR : Rep Ce where
  sz := 38
  pos := by decide
  rd := Ce.rd
  len h := by
    obtain ⟨v_l, rfl, hok, h0⟩ := h
    simp [Ce.cells, Cm.len hok.2.1]
  one h := by
    obtain ⟨v_l, rfl, hok, h0⟩ := h
    obtain ⟨_, _, e_l⟩ := h0.shape
    subst e_l
    intro u hu
    simp only [Ce.cells, List.mem_append, List.mem_cons, List.not_mem_nil, or_false, List.mem_map] at hu
    rcases hu with hu | rfl
    · exact Cm_one _ _ hu
    · rfl
  keep h hk := by
    obtain ⟨v_l, rfl, hok, h0⟩ := h
    exact ⟨_, rfl, hok, h0.keep hk⟩
  wid h hs := by
    obtain ⟨v_l, rfl, hok, h0⟩ := h
    exact ⟨_, rfl, hok, h0.widen hs⟩
  tight h := by
    obtain ⟨v_l, rfl, hok, h0⟩ := h
    exact ⟨_, rfl, hok, h0.tight⟩
/-- a promise -/
structure Pm where
  rp : Int
  ep : Int
  fl : Nat
  l : List Ce
  sb : Int
  mr : Int
abbrev Pm.cells (x : Pm) (v_l : Value) : List Value := [.int .i64 x.rp, .int .i64 x.ep, .int .u64 (x.fl : Nat), v_l, .int .i64 x.sb, .int .i64 x.mr]
def Pm.OK (x : Pm) : Prop := I64 x.rp ∧ I64 x.ep ∧ x.fl < U64 ∧ I64 x.sb ∧ I64 x.mr
def Pm.rd (R : Nat → Prop) (w : World) (cs : List Value) (x : Pm) : Prop := ∃ v_l, cs = x.cells v_l ∧ x.OK ∧ RdS CeR R w v_l x.l
def PmR : Rep Pm where
  sz := 6
  pos := by decide
  rd := Pm.rd
  len h := by
    obtain ⟨v_l, rfl, hok, h0⟩ := h
    rfl
  one h := by
    obtain ⟨v_l, rfl, hok, h0⟩ := h
    obtain ⟨_, _, e_l⟩ := h0.shape
    subst e_l
    intro u hu
    simp only [Pm.cells, List.mem_append, List.mem_cons, List.not_mem_nil, or_false, List.mem_map] at hu
    rcases hu with rfl | rfl | rfl | rfl | rfl | rfl <;> rfl
  keep h hk := by
    obtain ⟨v_l, rfl, hok, h0⟩ := h
    exact ⟨_, rfl, hok, h0.keep hk⟩
  wid h hs := by
    obtain ⟨v_l, rfl, hok, h0⟩ := h
    exact ⟨_, rfl, hok, h0.widen hs⟩
  tight h := by
    obtain ⟨v_l, rfl, hok, h0⟩ := h
    exact ⟨_, rfl, hok, h0.tight⟩
/-- an opening -/
structure Op where
  ix : Int
  pl : List Int
  nc : List Int
abbrev Op.cells (x : Op) (v_pl : Value) : List Value := [.int .i64 x.ix, v_pl] ++ x.nc.map bv
def Op.OK (x : Op) : Prop := I64 x.ix ∧ HK x.nc
def Op.rd (R : Nat → Prop) (w : World) (cs : List Value) (x : Op) : Prop := ∃ v_pl, cs = x.cells v_pl ∧ x.OK ∧ RdR R x.pl.length w v_pl x.pl
def OpR : Rep Op where
  sz := 34
  pos := by decide
  rd := Op.rd
  len h := by
    obtain ⟨v_pl, rfl, hok, h0⟩ := h
    simp [Op.cells, hok.2.1]
  one h := by
    obtain ⟨v_pl, rfl, hok, h0⟩ := h
    obtain ⟨_, _, e_pl⟩ := h0.shape
    subst e_pl
    intro u hu
    simp only [Op.cells, List.mem_append, List.mem_cons, List.not_mem_nil, or_false, List.mem_map] at hu
    rcases hu with (rfl | rfl) | ⟨y, -, rfl⟩ <;> rfl
  keep h hk := by
    obtain ⟨v_pl, rfl, hok, h0⟩ := h
    exact ⟨_, rfl, hok, RdR_keep h0 hk⟩
  wid h hs := by
    obtain ⟨v_pl, rfl, hok, h0⟩ := h
    exact ⟨_, rfl, hok, h0.widen hs (Nat.le_refl _)⟩
  tight h := by
    obtain ⟨v_pl, rfl, hok, h0⟩ := h
    exact ⟨_, rfl, hok, RdR_tight h0⟩
/-- a tombstone -/
structure Tb where
  ix : Int
  l : List Dn
abbrev Tb.cells (x : Tb) (v_l : Value) : List Value := [.int .i64 x.ix, v_l]
def Tb.OK (x : Tb) : Prop := I64 x.ix
def Tb.rd (R : Nat → Prop) (w : World) (cs : List Value) (x : Tb) : Prop := ∃ v_l, cs = x.cells v_l ∧ x.OK ∧ RdS DnR R w v_l x.l
def TbR : Rep Tb where
  sz := 2
  pos := by decide
  rd := Tb.rd
  len h := by
    obtain ⟨v_l, rfl, hok, h0⟩ := h
    rfl
  one h := by
    obtain ⟨v_l, rfl, hok, h0⟩ := h
    obtain ⟨_, _, e_l⟩ := h0.shape
    subst e_l
    intro u hu
    simp only [Tb.cells, List.mem_append, List.mem_cons, List.not_mem_nil, or_false, List.mem_map] at hu
    rcases hu with rfl | rfl <;> rfl
  keep h hk := by
    obtain ⟨v_l, rfl, hok, h0⟩ := h
    exact ⟨_, rfl, hok, h0.keep hk⟩
  wid h hs := by
    obtain ⟨v_l, rfl, hok, h0⟩ := h
    exact ⟨_, rfl, hok, h0.widen hs⟩
  tight h := by
    obtain ⟨v_l, rfl, hok, h0⟩ := h
    exact ⟨_, rfl, hok, h0.tight⟩
/-- a batch -/
structure Ba where
  ep : Int
  tm : Nat
  ps : List Pm
  os : List Op
  ts : List Tb
abbrev Ba.cells (x : Ba) (v_ps v_os v_ts : Value) : List Value := [.int .i64 x.ep, .int .u64 (x.tm : Nat), v_ps, v_os, v_ts]
def Ba.OK (x : Ba) : Prop := I64 x.ep ∧ x.tm < U64
def Ba.rd (R : Nat → Prop) (w : World) (cs : List Value) (x : Ba) : Prop := ∃ v_ps v_os v_ts, cs = x.cells v_ps v_os v_ts ∧ x.OK ∧ RdS PmR R w v_ps x.ps ∧ RdS OpR R w v_os x.os ∧ RdS TbR R w v_ts x.ts
def BaR : Rep Ba where
  sz := 5
  pos := by decide
  rd := Ba.rd
  len h := by
    obtain ⟨v_ps, v_os, v_ts, rfl, hok, h0, h1, h2⟩ := h
    rfl
  one h := by
    obtain ⟨v_ps, v_os, v_ts, rfl, hok, h0, h1, h2⟩ := h
    obtain ⟨_, _, e_ps⟩ := h0.shape
    obtain ⟨_, _, e_os⟩ := h1.shape
    obtain ⟨_, _, e_ts⟩ := h2.shape
    subst e_ps e_os e_ts
    intro u hu
    simp only [Ba.cells, List.mem_append, List.mem_cons, List.not_mem_nil, or_false, List.mem_map] at hu
    rcases hu with rfl | rfl | rfl | rfl | rfl <;> rfl
  keep h hk := by
    obtain ⟨v_ps, v_os, v_ts, rfl, hok, h0, h1, h2⟩ := h
    exact ⟨_, _, _, rfl, hok, h0.keep hk, h1.keep hk, h2.keep hk⟩
  wid h hs := by
    obtain ⟨v_ps, v_os, v_ts, rfl, hok, h0, h1, h2⟩ := h
    exact ⟨_, _, _, rfl, hok, h0.widen hs, h1.widen hs, h2.widen hs⟩
  tight h := by
    obtain ⟨v_ps, v_os, v_ts, rfl, hok, h0, h1, h2⟩ := h
    exact ⟨_, _, _, rfl, hok, h0.tight, h1.tight, h2.tight⟩
/-- a proposal -/
structure Pr where
  ep : Int
  rn : Int
  vl : Int
  rp : Int
  ba : Ba
  sb : Int
  mr : Int
abbrev Pr.cells (x : Pr) (v_ps v_os v_ts : Value) : List Value := [.int .i64 x.ep, .int .i64 x.rn, .int .i64 x.vl, .int .i64 x.rp, .int .i64 x.ba.ep, .int .u64 (x.ba.tm : Nat), v_ps, v_os, v_ts, .int .i64 x.sb, .int .i64 x.mr]
def Pr.OK (x : Pr) : Prop := I64 x.ep ∧ I64 x.rn ∧ I64 x.vl ∧ I64 x.rp ∧ x.ba.OK ∧ I64 x.sb ∧ I64 x.mr
def Pr.rd (R : Nat → Prop) (w : World) (cs : List Value) (x : Pr) : Prop := ∃ v_ps v_os v_ts, cs = x.cells v_ps v_os v_ts ∧ x.OK ∧ RdS PmR R w v_ps x.ba.ps ∧ RdS OpR R w v_os x.ba.os ∧ RdS TbR R w v_ts x.ba.ts
def PrR : Rep Pr where
  sz := 11
  pos := by decide
  rd := Pr.rd
  len h := by
    obtain ⟨v_ps, v_os, v_ts, rfl, hok, h0, h1, h2⟩ := h
    rfl
  one h := by
    obtain ⟨v_ps, v_os, v_ts, rfl, hok, h0, h1, h2⟩ := h
    obtain ⟨_, _, e_ps⟩ := h0.shape
    obtain ⟨_, _, e_os⟩ := h1.shape
    obtain ⟨_, _, e_ts⟩ := h2.shape
    subst e_ps e_os e_ts
    intro u hu
    simp only [Pr.cells, List.mem_append, List.mem_cons, List.not_mem_nil, or_false, List.mem_map] at hu
    rcases hu with rfl | rfl | rfl | rfl | rfl | rfl | rfl | rfl | rfl | rfl | rfl <;> rfl
  keep h hk := by
    obtain ⟨v_ps, v_os, v_ts, rfl, hok, h0, h1, h2⟩ := h
    exact ⟨_, _, _, rfl, hok, h0.keep hk, h1.keep hk, h2.keep hk⟩
  wid h hs := by
    obtain ⟨v_ps, v_os, v_ts, rfl, hok, h0, h1, h2⟩ := h
    exact ⟨_, _, _, rfl, hok, h0.widen hs, h1.widen hs, h2.widen hs⟩
  tight h := by
    obtain ⟨v_ps, v_os, v_ts, rfl, hok, h0, h1, h2⟩ := h
    exact ⟨_, _, _, rfl, hok, h0.tight, h1.tight, h2.tight⟩
end Go.Proofs.Ytpnikilkcifncaa

/- Small parts of messages, put as bytes. -/
namespace Go.Proofs.Ytpnikilkcifncaa
open Go Go.RowKit Go.Gv


/-- a signature's bytes, a name's, those of a list of things, and so on -/
def sigB (a b : Int) : List Int := encI a ++ encI b
def nameB (a b : Int) : List Int := encI a ++ encI b
def listB {α : Type} (f : α → List Int) (l : List α) : List Int := encI l.length ++ (l.map f).flatten
def cmB (x : Cm) : List Int := nameB x.cl x.sq ++ (x.h ++ (encI x.ln ++ sigB x.sb x.mr))
def stB (x : St) : List Int := encI x.rp ++ (nameB x.cl x.sq ++ (x.h ++ (encN x.tm ++ sigB x.sb x.mr)))
def ceB (x : Ce) : List Int := cmB x.c ++ listB stB x.l
def pmB (x : Pm) : List Int := encI x.rp ++ (encI x.ep ++ (encN x.fl ++ (listB ceB x.l ++ sigB x.sb x.mr)))
def opB (x : Op) : List Int := encI x.ix ++ ((encN x.pl.length ++ x.pl) ++ x.nc)
def dnB (x : Dn) : List Int := encI x.rp ++ (encI x.ix ++ sigB x.sb x.mr)
def tbB (x : Tb) : List Int := encI x.ix ++ listB dnB x.l
def baB (x : Ba) : List Int := encI x.ep ++ (encN x.tm ++ (listB pmB x.ps ++ (listB opB x.os ++ listB tbB x.ts)))
def vtB (x : Vt) : List Int := encI x.kd ++ (encI x.ep ++ (encI x.rd ++ (encI x.rp ++ (x.h ++ sigB x.sb x.mr))))
def enB (x : En) : List Int := nameB x.cl x.sq ++ (x.h ++ encN x.tm)
theorem WInt_Q {R : Nat → Prop} {g : Nat} {n : Int} {bs : List Int} {w : World} (hW : WrR R 900000 w g bs) (hn : I64 n) (hl : (bs ++ encI n).length ≤ 900000) :
    Calls Try.prog 52 #[.pointer (some ⟨g, 0, none⟩), .int .i64 n] w fun e w' => e = .returned (.pointer (some ⟨g, 0, none⟩)) ∧ WrR (fun k => R k ∨ New w w' k) 900000 w' g (bs ++ encI n) ∧ Mod R w w' := by
  obtain ⟨v, h1, h2, h3, h4⟩ := hW
  exact (WInt_any g n v bs w h1 hn (by unfold Room; omega)).mono fun _ _ ⟨he, h⟩ => ⟨he, WrTo_R _ h2 h3 h hl⟩
theorem WNum_Q {R : Nat → Prop} {g : Nat} {n : Nat} {bs : List Int} {w : World} (hW : WrR R 900000 w g bs) (hn : n < U64) (hl : (bs ++ encN n).length ≤ 900000) :
    Calls Try.prog 75 #[.pointer (some ⟨g, 0, none⟩), .int .u64 n] w fun e w' => e = .returned (.pointer (some ⟨g, 0, none⟩)) ∧ WrR (fun k => R k ∨ New w w' k) 900000 w' g (bs ++ encN n) ∧ Mod R w w' := by
  obtain ⟨v, h1, h2, h3, h4⟩ := hW
  exact (Num_any g n v bs w h1 hn (by unfold Room; omega)).mono fun _ _ ⟨he, h⟩ => ⟨he, WrTo_R _ h2 h3 h hl⟩
theorem WHash_Q {R : Nat → Prop} {g : Nat} {h bs : List Int} {w : World} (hW : WrR R 900000 w g bs) (hh : HK h) (hl : (bs ++ h).length ≤ 900000) :
    Calls Try.prog 69 #[.pointer (some ⟨g, 0, none⟩), hv h] w fun e w' => e = .returned (.pointer (some ⟨g, 0, none⟩)) ∧ WrR (fun k => R k ∨ New w w' k) 900000 w' g (bs ++ h) ∧ Mod R w w' := by
  obtain ⟨v, h1, h2, h3, h4⟩ := hW
  exact (WHash_any g v bs h w h1 hh.1 hh.2 (by unfold Room; omega)).mono fun _ _ ⟨he, h⟩ => ⟨he, WrTo_R _ h2 h3 h hl⟩
theorem WRow_Q {R R' : Nat → Prop} {M g : Nat} {bs : List Int} {v2 : Value} {cs : List Int} {w : World} (hW : WrR R 900000 w g bs) (hr : RdR R' M w v2 cs) (hs : ∀ k, R' k → R k → False) (hl : (bs ++ (encN cs.length ++ cs)).length ≤ 900000) :
    Calls Try.prog 67 #[.pointer (some ⟨g, 0, none⟩), v2] w fun e w' => e = .returned (.pointer (some ⟨g, 0, none⟩)) ∧ WrR (fun k => R k ∨ New w w' k) 900000 w' g (bs ++ (encN cs.length ++ cs)) ∧ Mod R w w' := by
  obtain ⟨v, h1, h2, h3, h4⟩ := hW
  obtain ⟨ao, cap, rfl⟩ := hr.shape
  have hlc : cs.length ≤ 900000 := by simp only [List.length_append] at hl; omega
  refine (WRow_any g v bs ao cap cs w h1 hr.1 ?_ (by unfold Room; omega)).mono fun _ _ ⟨he, h⟩ => ⟨he, WrTo_R _ h2 h3 h hl⟩
  intro h0 k hg hk
  rcases hk with rfl | hk
  · exact hs _ (hr.2.1 h0 _ hg) h2
  · exact hs _ (hr.2.1 h0 _ hg) (h3 k hk.symm)
/-- a function that puts things of a kind -/
def Puts {α : Type} (A : Rep α) (F : FuncId) (f : α → List Int) : Prop := ∀ (R R2 : Nat → Prop) (g : Nat) (bs : List Int) (cs : List Value) (x : α) (w : World), WrR R 900000 w g bs → (∀ k, R k → k < w.heap.size) → A.rd R2 w cs x → (∀ k, R2 k → k < w.heap.size) → (∀ k, R k → R2 k → False) → (bs ++ f x).length ≤ 900000 →
  Calls Try.prog F #[.pointer (some ⟨g, 0, none⟩), .agg cs.toArray] w fun e w' => e = .returned (.tuple #[]) ∧ WrR (fun k => R k ∨ New w w' k) 900000 w' g (bs ++ f x) ∧ Mod R w w'
/-- one that puts lists of them -/
def PutsL {α : Type} (A : Rep α) (F Fe : FuncId) (f : α → List Int) : Prop := ∀ (R R2 : Nat → Prop) (g : Nat) (bs : List Int) (v : Value) (l : List α) (w : World), WrR R 900000 w g bs → (∀ k, R k → k < w.heap.size) → RdS A R2 w v l → (∀ k, R2 k → k < w.heap.size) → (∀ k, R k → R2 k → False) → (bs ++ listB f l).length ≤ 900000 →
  Calls Try.prog F #[.pointer (some ⟨g, 0, none⟩), v, .func (.func Fe) #[] #[]] w fun e w' => e = .returned (.tuple #[]) ∧ WrR (fun k => R k ∨ New w w' k) 900000 w' g (bs ++ listB f l) ∧ Mod R w w'
theorem put_len {α : Type} (f : α → List Int) (bs : List Int) (n : List Int) (l : List α) (k : Nat) : (bs ++ (n ++ ((l.take k).map f).flatten)).length ≤ (bs ++ (n ++ (l.map f).flatten)).length := by
  have h : (l.map f).flatten = ((l.take k).map f).flatten ++ ((l.drop k).map f).flatten := by rw [← List.flatten_append, ← List.map_append, List.take_append_drop]
  rw [h]
  simp only [List.length_append]
  omega
set_option maxHeartbeats 2000000 in
theorem PutSig_Q {R : Nat → Prop} {g : Nat} {bs : List Int} {a b : Int} {w : World} (hW : WrR R 900000 w g bs) (hB : ∀ k, R k → k < w.heap.size) (ha : I64 a) (hb : I64 b) (hl : (bs ++ sigB a b).length ≤ 900000) :
    Calls Try.prog 122 #[.pointer (some ⟨g, 0, none⟩), .agg #[.int .i64 a, .int .i64 b]] w fun e w' => e = .returned (.tuple #[]) ∧ WrR (fun k => R k ∨ New w w' k) 900000 w' g (bs ++ sigB a b) ∧ Mod R w w' := by
  have HW := Lib.hid hW
  have HBR := Lib.hid hB
  have HL := hid (show (bs ++ (encI a ++ encI b)).length ≤ 900000 from hl)
  have HA := Lib.hid ha
  have HB := Lib.hid hb
  clear hW hB hl ha hb
  change Calls _ _ #[.pointer (some ⟨g, 0, none⟩), .agg #[.int .i64 a, .int .i64 b]] _ _
  go_enter Try.func122, Try.ntmps122
  go_upto_region 1 with (fail)
  obtain ⟨w1, hw1⟩ : ∃ zz, zz = (w.alloc (.cells #[.int .i64 a, .int .i64 b] 34)) := ⟨_, rfl⟩
  change Code.wp _ _ _ _ (w.alloc (.cells #[.int .i64 a, .int .i64 b] 34))
  rw [← hw1]
  have HB3 := hid (show Cs w1 (w.heap.size) #[.int .i64 a, .int .i64 b] 34 by rw [hw1]; exact Cs.new _ _ _)
  have hm : Mod (fun _ => False) w w1 := by rw [hw1]; exact (Mod.refl _ _).alloc _
  have HM0 := hid (show Mod (fun k => (R k)) w w1 from hm.mono (fun _ _ h => h.elim))
  have hs1 : w1.heap.size = w.heap.size + 1 := by rw [hw1]; simp
  have Hx1 := hid (HW.out.mod hm (fun _ _ h => h))
  clear HW
  clear hw1 hm
  go_upto_region 1 with (fail)
  generalize ha0 : Act.mk _ _ = a0
  have oe0 : a0.eval (.tmp 0) = .pointer (some ⟨g, 0, none⟩) := by rw [← ha0]; rfl
  have oe3 : a0.eval (.tmp 3) = .pointer (some ⟨w.heap.size, 0, none⟩) := by rw [← ha0]; rfl
  have hsz0 : a0.tmps.size = 11 := by rw [← ha0]; rfl
  have HA0 := hid ha0
  clear ha0
  refine wp_region_Q1 11 hsz0 [4, 5, 6, 7, 8, 9, 10] (fun k => (R k)) (fun k j => (k = 0 ∧ ((R j))) ∨ (k = 1 ∧ ((R j)))) (by intro k j h; (try dsimp only at h ⊢); rcases h with ⟨-, h⟩ | ⟨-, h⟩; (exact h); (exact h)) [qi (.pointer (some ⟨g, 0, none⟩)), qi (.pointer (some ⟨w.heap.size, 0, none⟩)), qi (.int .i64 a), qi (.pointer (some ⟨g, 0, none⟩)), qi (.pointer (some ⟨w.heap.size, 1, none⟩)), qi (.int .i64 b), qi (.pointer (some ⟨g, 0, none⟩))] ⟨qi_stable, qi_stable, qi_stable, qi_stable, qi_stable, qi_stable, qi_stable, trivial⟩ [3, 6] ⟨?_, ?_, ?_, ?_, ?_, ?_, ?_, trivial⟩ ?_
  · exact stq (fun E => ex_move rfl (E.v oe0))
  · exact stq (fun E => ex_field rfl Try.underlying34 rfl (by kernel_rfl) (E.v oe3))
  · exact stq (fun E => ex_load1 rfl Try.underlying3 rfl (E.d 1) (Cs.lit1 (HB3.out.mod E.m (by intro h2; rcases h2 with ⟨h0, h2⟩ | h2 <;> first | omega | (have hb := HBR.out _ h2; omega))) rfl))
  · exact stepq_chain rfl
  · exact stq (fun E => ex_field rfl Try.underlying34 rfl (by kernel_rfl) (E.v oe3))
  · exact stq (fun E => ex_load1 rfl Try.underlying3 rfl (E.d 4) (Cs.lit1 (HB3.out.mod E.m (by intro h2; rcases h2 with ⟨h0, h2⟩ | h2 <;> first | omega | (have hb := HBR.out _ h2; omega))) rfl))
  · exact stepq_chain rfl
  intro u1_0 hr
  have zu1_0 := hr.size
  have Cx2 := hid (hr.new (S := (fun k => (R k))))
  have Hx3 := hid (Hx1.out.mod hr (by intro k h1 h2; have hb := HBR.out k h1; omega))
  clear Hx1
  clear hr
  refine QChain.go fun Z act E => ?_
  refine qc_callF (args := #[.pointer (some ⟨g, 0, none⟩), .int .i64 a]) rfl (wanted_none rfl) rfl Try.func52 (args2 (E.d 0) (E.d 2)) (WInt_Q Hx3.out HA.out (by have := HL.out; simp only [List.length_append] at this ⊢; omega)) ?_
  rintro e u1_1a ⟨rfl, qwr, hm⟩
  have zu1_1a := hm.size
  refine ⟨_, rfl, hm.mono (by intro k hk h; first | omega | exact Or.inl ⟨(by have hb := HBR.out k h; omega), Or.inl ⟨rfl, h⟩⟩), (fun _ => rfl), ?_⟩
  intro u1_1 hr
  have zu1_1 := hr.size
  have Hx4 := hid ((qwr.widen (R' := (fun k => (R k) ∨ (New u1_0 u1_1a k))) (fun _ h => h) (Nat.le_refl _)).mod hr (by intro k h1 h2; rcases h1 with h1 | h1 <;> first | omega | (have hb := HBR.out k h1; omega)))
  have Cx5 := hid (Cx2.out.goM hm hr (fun _ _ h => h))
  clear Cx2 hm hr Z act E qwr Hx3
  refine QChain.go fun Z act E => ?_
  refine qc_callF (args := #[.pointer (some ⟨g, 0, none⟩), .int .i64 b]) rfl (wanted_none rfl) rfl Try.func52 (args2 (E.d 3) (E.d 5)) (WInt_Q Hx4.out HB.out (by have := HL.out; simp only [List.length_append] at this ⊢; omega)) ?_
  rintro e u1_2a ⟨rfl, qwr, hm⟩
  have zu1_2a := hm.size
  refine ⟨_, rfl, hm.mono (by intro k hk h; rcases h with h | h <;> first | omega | exact Or.inl ⟨(by have hb := HBR.out k h; omega), Or.inr (⟨rfl, h⟩)⟩), (fun _ => rfl), ?_⟩
  intro u1_2 hr
  have zu1_2 := hr.size
  have Hx6 := hid ((qwr.widen (R' := (fun k => (R k) ∨ (New u1_0 u1_1a k) ∨ (New u1_1 u1_2a k))) (by intro k h1; simp only [or_assoc] at h1 ⊢; exact h1) (Nat.le_refl _)).mod hr (by intro k h1 h2; rcases h1 with h1 | h1 | h1 <;> first | omega | (have hb := HBR.out k h1; omega)))
  have Cx7 := hid (Cx5.out.goM hm hr (by intro k h0 h2; rcases h2 with h2 | h2 <;> first | omega | exact h2))
  clear Cx5 hm hr Z act E qwr Hx4
  refine QChain.nil fun vs hl hzz hrows hne => ?_
  obtain ⟨Z, hYZ, hZb, hV⟩ := hzz
  have f0 := fvi hV hl 0
  have f3 := fvi hV hl 3
  have f6 := fvi hV hl 6
  rw [show vs = [gw vs 0, gw vs 1, gw vs 2, gw vs 3, gw vs 4, gw vs 5, gw vs 6] from (gw_eta hl).trans rfl]
  have ha0 := HA0.out
  subst ha0
  clear HA0 hV hYZ hZb hsz0 hrows hne oe0 oe3
  simp only [putAll, Act.put, List.setIfInBounds_toArray, List.set_cons_zero, List.set_cons_succ, f0, f3, f6]
  clear hl f0 f3 f6
  go_wp2
  go_end0
  have hq := (Hx6.out.widen (R' := (fun k => R k ∨ New w u1_2 k)) (by intro k h1; rcases h1 with h1 | h1 | h1 <;> first | exact Or.inl h1 | (right; omega)) (Nat.le_refl _))
  simp only [List.append_assoc] at hq
  exact ⟨rfl, by simpa only [sigB, List.append_assoc] using hq, (HM0.out.trans Cx7.out (fun _ _ h => h))⟩
set_option maxHeartbeats 2000000 in
theorem PutName_Q {R : Nat → Prop} {g : Nat} {bs : List Int} {a b : Int} {w : World} (hW : WrR R 900000 w g bs) (hB : ∀ k, R k → k < w.heap.size) (ha : I64 a) (hb : I64 b) (hl : (bs ++ nameB a b).length ≤ 900000) :
    Calls Try.prog 74 #[.pointer (some ⟨g, 0, none⟩), .agg #[.int .i64 a, .int .i64 b]] w fun e w' => e = .returned (.tuple #[]) ∧ WrR (fun k => R k ∨ New w w' k) 900000 w' g (bs ++ nameB a b) ∧ Mod R w w' := by
  have HW := Lib.hid hW
  have HBR := Lib.hid hB
  have HL := hid (show (bs ++ (encI a ++ encI b)).length ≤ 900000 from hl)
  have HA := Lib.hid ha
  have HB := Lib.hid hb
  clear hW hB hl ha hb
  change Calls _ _ #[.pointer (some ⟨g, 0, none⟩), .agg #[.int .i64 a, .int .i64 b]] _ _
  go_enter Try.func74, Try.ntmps74
  go_upto_region 1 with (fail)
  obtain ⟨w1, hw1⟩ : ∃ zz, zz = (w.alloc (.cells #[.int .i64 a, .int .i64 b] 30)) := ⟨_, rfl⟩
  change Code.wp _ _ _ _ (w.alloc (.cells #[.int .i64 a, .int .i64 b] 30))
  rw [← hw1]
  have HB3 := hid (show Cs w1 (w.heap.size) #[.int .i64 a, .int .i64 b] 30 by rw [hw1]; exact Cs.new _ _ _)
  have hm : Mod (fun _ => False) w w1 := by rw [hw1]; exact (Mod.refl _ _).alloc _
  have HM0 := hid (show Mod (fun k => (R k)) w w1 from hm.mono (fun _ _ h => h.elim))
  have hs1 : w1.heap.size = w.heap.size + 1 := by rw [hw1]; simp
  have Hx1 := hid (HW.out.mod hm (fun _ _ h => h))
  clear HW
  clear hw1 hm
  go_upto_region 1 with (fail)
  generalize ha0 : Act.mk _ _ = a0
  have oe0 : a0.eval (.tmp 0) = .pointer (some ⟨g, 0, none⟩) := by rw [← ha0]; rfl
  have oe3 : a0.eval (.tmp 3) = .pointer (some ⟨w.heap.size, 0, none⟩) := by rw [← ha0]; rfl
  have hsz0 : a0.tmps.size = 11 := by rw [← ha0]; rfl
  have HA0 := hid ha0
  clear ha0
  refine wp_region_Q1 11 hsz0 [4, 5, 6, 7, 8, 9, 10] (fun k => (R k)) (fun k j => (k = 0 ∧ ((R j))) ∨ (k = 1 ∧ ((R j)))) (by intro k j h; (try dsimp only at h ⊢); rcases h with ⟨-, h⟩ | ⟨-, h⟩; (exact h); (exact h)) [qi (.pointer (some ⟨g, 0, none⟩)), qi (.pointer (some ⟨w.heap.size, 0, none⟩)), qi (.int .i64 a), qi (.pointer (some ⟨g, 0, none⟩)), qi (.pointer (some ⟨w.heap.size, 1, none⟩)), qi (.int .i64 b), qi (.pointer (some ⟨g, 0, none⟩))] ⟨qi_stable, qi_stable, qi_stable, qi_stable, qi_stable, qi_stable, qi_stable, trivial⟩ [3, 6] ⟨?_, ?_, ?_, ?_, ?_, ?_, ?_, trivial⟩ ?_
  · exact stq (fun E => ex_move rfl (E.v oe0))
  · exact stq (fun E => ex_field rfl Try.underlying30 rfl (by kernel_rfl) (E.v oe3))
  · exact stq (fun E => ex_load1 rfl Try.underlying3 rfl (E.d 1) (Cs.lit1 (HB3.out.mod E.m (by intro h2; rcases h2 with ⟨h0, h2⟩ | h2 <;> first | omega | (have hb := HBR.out _ h2; omega))) rfl))
  · exact stepq_chain rfl
  · exact stq (fun E => ex_field rfl Try.underlying30 rfl (by kernel_rfl) (E.v oe3))
  · exact stq (fun E => ex_load1 rfl Try.underlying3 rfl (E.d 4) (Cs.lit1 (HB3.out.mod E.m (by intro h2; rcases h2 with ⟨h0, h2⟩ | h2 <;> first | omega | (have hb := HBR.out _ h2; omega))) rfl))
  · exact stepq_chain rfl
  intro u1_0 hr
  have zu1_0 := hr.size
  have Cx2 := hid (hr.new (S := (fun k => (R k))))
  have Hx3 := hid (Hx1.out.mod hr (by intro k h1 h2; have hb := HBR.out k h1; omega))
  clear Hx1
  clear hr
  refine QChain.go fun Z act E => ?_
  refine qc_callF (args := #[.pointer (some ⟨g, 0, none⟩), .int .i64 a]) rfl (wanted_none rfl) rfl Try.func52 (args2 (E.d 0) (E.d 2)) (WInt_Q Hx3.out HA.out (by have := HL.out; simp only [List.length_append] at this ⊢; omega)) ?_
  rintro e u1_1a ⟨rfl, qwr, hm⟩
  have zu1_1a := hm.size
  refine ⟨_, rfl, hm.mono (by intro k hk h; first | omega | exact Or.inl ⟨(by have hb := HBR.out k h; omega), Or.inl ⟨rfl, h⟩⟩), (fun _ => rfl), ?_⟩
  intro u1_1 hr
  have zu1_1 := hr.size
  have Hx4 := hid ((qwr.widen (R' := (fun k => (R k) ∨ (New u1_0 u1_1a k))) (fun _ h => h) (Nat.le_refl _)).mod hr (by intro k h1 h2; rcases h1 with h1 | h1 <;> first | omega | (have hb := HBR.out k h1; omega)))
  have Cx5 := hid (Cx2.out.goM hm hr (fun _ _ h => h))
  clear Cx2 hm hr Z act E qwr Hx3
  refine QChain.go fun Z act E => ?_
  refine qc_callF (args := #[.pointer (some ⟨g, 0, none⟩), .int .i64 b]) rfl (wanted_none rfl) rfl Try.func52 (args2 (E.d 3) (E.d 5)) (WInt_Q Hx4.out HB.out (by have := HL.out; simp only [List.length_append] at this ⊢; omega)) ?_
  rintro e u1_2a ⟨rfl, qwr, hm⟩
  have zu1_2a := hm.size
  refine ⟨_, rfl, hm.mono (by intro k hk h; rcases h with h | h <;> first | omega | exact Or.inl ⟨(by have hb := HBR.out k h; omega), Or.inr (⟨rfl, h⟩)⟩), (fun _ => rfl), ?_⟩
  intro u1_2 hr
  have zu1_2 := hr.size
  have Hx6 := hid ((qwr.widen (R' := (fun k => (R k) ∨ (New u1_0 u1_1a k) ∨ (New u1_1 u1_2a k))) (by intro k h1; simp only [or_assoc] at h1 ⊢; exact h1) (Nat.le_refl _)).mod hr (by intro k h1 h2; rcases h1 with h1 | h1 | h1 <;> first | omega | (have hb := HBR.out k h1; omega)))
  have Cx7 := hid (Cx5.out.goM hm hr (by intro k h0 h2; rcases h2 with h2 | h2 <;> first | omega | exact h2))
  clear Cx5 hm hr Z act E qwr Hx4
  refine QChain.nil fun vs hl hzz hrows hne => ?_
  obtain ⟨Z, hYZ, hZb, hV⟩ := hzz
  have f0 := fvi hV hl 0
  have f3 := fvi hV hl 3
  have f6 := fvi hV hl 6
  rw [show vs = [gw vs 0, gw vs 1, gw vs 2, gw vs 3, gw vs 4, gw vs 5, gw vs 6] from (gw_eta hl).trans rfl]
  have ha0 := HA0.out
  subst ha0
  clear HA0 hV hYZ hZb hsz0 hrows hne oe0 oe3
  simp only [putAll, Act.put, List.setIfInBounds_toArray, List.set_cons_zero, List.set_cons_succ, f0, f3, f6]
  clear hl f0 f3 f6
  go_wp2
  go_end0
  have hq := (Hx6.out.widen (R' := (fun k => R k ∨ New w u1_2 k)) (by intro k h1; rcases h1 with h1 | h1 | h1 <;> first | exact Or.inl h1 | (right; omega)) (Nat.le_refl _))
  simp only [List.append_assoc] at hq
  exact ⟨rfl, by simpa only [nameB, List.append_assoc] using hq, (HM0.out.trans Cx7.out (fun _ _ h => h))⟩
set_option maxHeartbeats 4000000 in
theorem PutCm_Q : Puts CmR 82 cmB := by
  intro R R2 g bs cs x w hW hB hx hB2 hD hl
  obtain ⟨rfl, hok⟩ := hx
  have HW := Lib.hid hW
  have HBR := Lib.hid hB
  have HBT := Lib.hid hB2
  have HDJ := Lib.hid hD
  have HOK := Lib.hid hok
  have HL := Lib.hid hl
  clear hW hB hB2 hD hl hok
  unfold cmB at HL
  go_enter Try.func82, Try.ntmps82
  go_upto_region 1 with (fail)
  obtain ⟨w1, hw1⟩ : ∃ zz, zz = (w.alloc (.cells (x.cells : List Value).toArray 36)) := ⟨_, rfl⟩
  change Code.wp _ _ _ _ (w.alloc (.cells (x.cells : List Value).toArray 36))
  rw [← hw1]
  have HB3 := hid (show Cs w1 (w.heap.size) (x.cells : List Value).toArray 36 by rw [hw1]; exact Cs.new _ _ _)
  have hm : Mod (fun _ => False) w w1 := by rw [hw1]; exact (Mod.refl _ _).alloc _
  have HM0 := hid (show Mod (fun k => (R k)) w w1 from hm.mono (fun _ _ h => h.elim))
  have hs1 : w1.heap.size = w.heap.size + 1 := by rw [hw1]; simp
  have Hx1 := hid (HW.out.mod hm (fun _ _ h => h))
  clear HW
  clear hw1 hm
  go_upto_region 1 with (fail)
  refine wp_region_U 19 [4, 5, 6, 7] [0, 1, 2, 3] (fun a0 HA0 => ?_)
  have oe0 := ev HA0 0 rfl
  have oe3 := ev HA0 3 rfl
  refine QSeq.pure rfl _ (fun E => ex_move rfl (E.v oe0)) ?_
  refine QSeq.pure rfl (.pointer (some ⟨w.heap.size, 0, none⟩)) (fun E => ex_field rfl Try.underlying36 rfl (by kernel_rfl) (E.v oe3)) ?_
  refine QSeq.pure rfl _ (fun E => ex_loadA rfl Try.underlying30 rfl (off := 0) (cs := [.int .i64 x.cl, .int .i64 x.sq]) (by kernel_rfl) (E.d 1 0) (Cs.preA (pre := [.int .i64 x.cl, .int .i64 x.sq]) (mid := x.h.map bv) (post := [.int .i64 x.ln, .int .i64 x.sb, .int .i64 x.mr]) HB3.out rfl)) ?_
  refine QSeq.call rfl rfl Try.func74 (PutName_Q Hx1.out (by intro k h1; have hb := HBR.out k h1; omega) HOK.out.1.1 HOK.out.1.2.1 (by have := HL.out; simp only [List.length_append] at this ⊢; omega)) (fun E => args2 (E.d 0 2) (E.d 2 0)) ?_
  rintro e u1_3 ⟨rfl, qwr, hm⟩
  refine ⟨_, rfl, ?_⟩
  have Hx2 := hid (qwr.widen (R' := (fun k => (R k) ∨ (New w1 u1_3 k))) (fun _ h => h) (Nat.le_refl _))
  have zu1_3 := hm.size
  have Cx3 := hid (show Mod (fun k => (R k)) w1 u1_3 from hm)
  clear hm
  clear qwr Hx1
  refine QSeq.nil (t' := [_, _, _, _]) rfl ?_
  obtain rfl := HA0.out
  clear HA0 oe0 oe3
  simp only [pz, Act.put, List.setIfInBounds_toArray, List.set_cons_zero, List.set_cons_succ]
  go_upto_region 2 with (fail)
  generalize ha0 : Act.mk _ _ = a0
  have oe0 : a0.eval (.tmp 0) = .pointer (some ⟨g, 0, none⟩) := by rw [← ha0]; rfl
  have oe3 : a0.eval (.tmp 3) = .pointer (some ⟨w.heap.size, 0, none⟩) := by rw [← ha0]; rfl
  have hsz0 : a0.tmps.size = 19 := by rw [← ha0]; rfl
  have HA0 := hid ha0
  clear ha0
  refine wp_region_Q1 19 hsz0 [8, 9, 10, 11, 12, 13, 14] (fun k => (R k) ∨ (New w1 u1_3 k)) (fun k j => (k = 0 ∧ ((R j) ∨ (New w1 u1_3 j))) ∨ (k = 1 ∧ ((R j) ∨ (New w1 u1_3 j)))) (by intro k j h; (try dsimp only at h ⊢); rcases h with ⟨-, h | h⟩ | ⟨-, h | h⟩; (exact Or.inl (h)); (exact Or.inr (h)); (exact Or.inl (h)); (exact Or.inr (h))) [qi (.pointer (some ⟨g, 0, none⟩)), qi (.pointer (some ⟨w.heap.size, 2, none⟩)), qi (hv x.h), qi (.pointer (some ⟨g, 0, none⟩)), qi (.pointer (some ⟨w.heap.size, 34, none⟩)), qi (.int .i64 x.ln), qi (.pointer (some ⟨g, 0, none⟩))] ⟨qi_stable, qi_stable, qi_stable, qi_stable, qi_stable, qi_stable, qi_stable, trivial⟩ [3, 6] ⟨?_, ?_, ?_, ?_, ?_, ?_, ?_, trivial⟩ ?_
  · exact stq (fun E => ex_move rfl (E.v oe0))
  · exact stq (fun E => ex_field rfl Try.underlying36 rfl (by kernel_rfl) (E.v oe3))
  · exact stq (fun E => ex_loadA rfl Try.underlying32 rfl (off := 2) (cs := x.h.map bv) (by rw [List.length_map, HOK.out.2.1]; exact size_hash) (E.d 1) (((HB3.out.mod Cx3.out (by intro h2; first | omega | (have hb := HBR.out _ h2; omega))).mod E.m (by intro h2; rcases h2 with ⟨h0, h2 | h2⟩ | h2 <;> first | omega | (have hb := HBR.out _ h2; omega))).hash))
  · exact stepq_chain rfl
  · exact stq (fun E => ex_field rfl Try.underlying36 rfl (by kernel_rfl) (E.v oe3))
  · exact stq (fun E => ex_load1 rfl Try.underlying3 rfl (E.d 4) (((HB3.out.mod Cx3.out (by intro h2; first | omega | (have hb := HBR.out _ h2; omega))).mod E.m (by intro h2; rcases h2 with ⟨h0, h2 | h2⟩ | h2 <;> first | omega | (have hb := HBR.out _ h2; omega))).c34 HOK.out.2.1))
  · exact stepq_chain rfl
  intro u2_0 hr
  have zu2_0 := hr.size
  have Cx4 := hid (hr.new (S := (fun k => (R k) ∨ (New w1 u1_3 k))))
  have Hx5 := hid (Hx2.out.mod hr (by intro k h1 h2; rcases h1 with h1 | h1 <;> first | omega | (have hb := HBR.out k h1; omega)))
  clear Hx2
  clear hr
  refine QChain.go fun Z act E => ?_
  refine qc_callF (args := #[.pointer (some ⟨g, 0, none⟩), hv x.h]) rfl (wanted_none rfl) rfl Try.func69 (args2 (E.d 0) (E.d 2)) (WHash_Q Hx5.out HOK.out.2 (by have := HL.out; simp only [List.length_append] at this ⊢; omega)) ?_
  rintro e u2_1a ⟨rfl, qwr, hm⟩
  have zu2_1a := hm.size
  refine ⟨_, rfl, hm.mono (by intro k hk h; rcases h with h | h <;> first | omega | exact Or.inl ⟨(by have hb := HBR.out k h; omega), Or.inl ⟨rfl, Or.inl h⟩⟩), (fun _ => rfl), ?_⟩
  intro u2_1 hr
  have zu2_1 := hr.size
  have Hx6 := hid ((qwr.widen (R' := (fun k => (R k) ∨ (New w1 u1_3 k) ∨ (New u2_0 u2_1a k))) (by intro k h1; simp only [or_assoc] at h1 ⊢; exact h1) (Nat.le_refl _)).mod hr (by intro k h1 h2; rcases h1 with h1 | h1 | h1 <;> first | omega | (have hb := HBR.out k h1; omega)))
  have Cx7 := hid (Cx4.out.goM hm hr (fun _ _ h => h))
  clear Cx4 hm hr Z act E qwr Hx5
  refine QChain.go fun Z act E => ?_
  refine qc_callF (args := #[.pointer (some ⟨g, 0, none⟩), .int .i64 x.ln]) rfl (wanted_none rfl) rfl Try.func52 (args2 (E.d 3) (E.d 5)) (WInt_Q Hx6.out HOK.out.1.2.2.1 (by have := HL.out; simp only [List.length_append] at this ⊢; omega)) ?_
  rintro e u2_2a ⟨rfl, qwr, hm⟩
  have zu2_2a := hm.size
  refine ⟨_, rfl, hm.mono (by intro k hk h; rcases h with h | h | h <;> first | omega | exact Or.inl ⟨(by have hb := HBR.out k h; omega), Or.inr (⟨rfl, Or.inl h⟩)⟩), (fun _ => rfl), ?_⟩
  intro u2_2 hr
  have zu2_2 := hr.size
  have Hx8 := hid ((qwr.widen (R' := (fun k => (R k) ∨ (New w1 u1_3 k) ∨ (New u2_0 u2_1a k) ∨ (New u2_1 u2_2a k))) (by intro k h1; simp only [or_assoc] at h1 ⊢; exact h1) (Nat.le_refl _)).mod hr (by intro k h1 h2; rcases h1 with h1 | h1 | h1 | h1 <;> first | omega | (have hb := HBR.out k h1; omega)))
  have Cx9 := hid (Cx7.out.goM hm hr (by intro k h0 h2; rcases h2 with h2 | h2 | h2 <;> first | omega | exact Or.inl h2 | exact Or.inr (h2)))
  clear Cx7 hm hr Z act E qwr Hx6
  refine QChain.nil fun vs hl hzz hrows hne => ?_
  obtain ⟨Z, hYZ, hZb, hV⟩ := hzz
  have f0 := fvi hV hl 0
  have f3 := fvi hV hl 3
  have f6 := fvi hV hl 6
  rw [show vs = [gw vs 0, gw vs 1, gw vs 2, gw vs 3, gw vs 4, gw vs 5, gw vs 6] from (gw_eta hl).trans rfl]
  have ha0 := HA0.out
  subst ha0
  clear HA0 hV hYZ hZb hsz0 hrows hne oe0 oe3
  simp only [putAll, Act.put, List.setIfInBounds_toArray, List.set_cons_zero, List.set_cons_succ, f0, f3, f6]
  clear hl f0 f3 f6
  go_upto_region 3 with (fail)
  refine wp_region_U 19 [15, 16, 17, 18] [0, 1, 2, 3] (fun a0 HA0 => ?_)
  have oe0 := ev HA0 0 rfl
  have oe3 := ev HA0 3 rfl
  refine QSeq.pure rfl _ (fun E => ex_move rfl (E.v oe0)) ?_
  refine QSeq.pure rfl (.pointer (some ⟨w.heap.size, 35, none⟩)) (fun E => ex_field rfl Try.underlying36 rfl (by kernel_rfl) (E.v oe3)) ?_
  refine QSeq.pure rfl _ (fun E => ex_loadA rfl Try.underlying34 rfl (off := 35) (cs := [.int .i64 x.sb, .int .i64 x.mr]) (by kernel_rfl) (E.d 1 0) (((HB3.out.mod Cx3.out (by intro h2; first | omega | (have hb := HBR.out _ h2; omega))).mod Cx9.out (by intro h2; rcases h2 with h2 | h2 <;> first | omega | (have hb := HBR.out _ h2; omega))).sig HOK.out.2.1)) ?_
  refine QSeq.call rfl rfl Try.func122 (PutSig_Q Hx8.out (by intro k h1; rcases h1 with h1 | h1 | h1 | h1 <;> first | omega | (have hb := HBR.out k h1; omega)) HOK.out.1.2.2.2.1 HOK.out.1.2.2.2.2 (by have := HL.out; simp only [List.length_append] at this ⊢; omega)) (fun E => args2 (E.d 0 2) (E.d 2 0)) ?_
  rintro e u3_3 ⟨rfl, qwr, hm⟩
  refine ⟨_, rfl, ?_⟩
  have Hx10 := hid (qwr.widen (R' := (fun k => (R k) ∨ (New w1 u1_3 k) ∨ (New u2_0 u2_1a k) ∨ (New u2_1 u2_2a k) ∨ (New u2_2 u3_3 k))) (by intro k h1; simp only [or_assoc] at h1 ⊢; exact h1) (Nat.le_refl _))
  have zu3_3 := hm.size
  have Cx11 := hid (show Mod (fun k => (R k) ∨ (New w1 u1_3 k) ∨ (New u2_0 u2_1a k) ∨ (New u2_1 u2_2a k)) u2_2 u3_3 from hm)
  clear hm
  clear qwr Hx8
  refine QSeq.nil (t' := [_, _, _, _]) rfl ?_
  obtain rfl := HA0.out
  clear HA0 oe0 oe3
  simp only [pz, Act.put, List.setIfInBounds_toArray, List.set_cons_zero, List.set_cons_succ]
  go_wp2
  go_end0
  have hq := (Hx10.out.widen (R' := (fun k => R k ∨ New w u3_3 k)) (by intro k h1; rcases h1 with h1 | h1 | h1 | h1 | h1 <;> first | exact Or.inl h1 | (right; omega)) (Nat.le_refl _))
  simp only [List.append_assoc] at hq
  exact ⟨rfl, by simpa only [cmB, List.append_assoc] using hq, (((HM0.out.trans Cx3.out (fun _ _ h => h)).trans Cx9.out (by intro k h1 h2; rcases h2 with h2 | h2 <;> first | exact h2 | omega | (have hb := HBR.out k h2; omega))).trans Cx11.out (by intro k h1 h2; rcases h2 with h2 | h2 | h2 | h2 <;> first | exact h2 | omega | (have hb := HBR.out k h2; omega)))⟩
set_option maxHeartbeats 4000000 in
theorem PutSt_Q : Puts StR 83 stB := by
  intro R R2 g bs cs x w hW hB hx hB2 hD hl
  obtain ⟨rfl, hok⟩ := hx
  have HW := Lib.hid hW
  have HBR := Lib.hid hB
  have HBT := Lib.hid hB2
  have HDJ := Lib.hid hD
  have HOK := Lib.hid hok
  have HL := Lib.hid hl
  clear hW hB hB2 hD hl hok
  unfold stB at HL
  go_enter Try.func83, Try.ntmps83
  go_upto_region 1 with (fail)
  obtain ⟨w1, hw1⟩ : ∃ zz, zz = (w.alloc (.cells (x.cells : List Value).toArray 47)) := ⟨_, rfl⟩
  change Code.wp _ _ _ _ (w.alloc (.cells (x.cells : List Value).toArray 47))
  rw [← hw1]
  have HB3 := hid (show Cs w1 (w.heap.size) (x.cells : List Value).toArray 47 by rw [hw1]; exact Cs.new _ _ _)
  have hm : Mod (fun _ => False) w w1 := by rw [hw1]; exact (Mod.refl _ _).alloc _
  have HM0 := hid (show Mod (fun k => (R k)) w w1 from hm.mono (fun _ _ h => h.elim))
  have hs1 : w1.heap.size = w.heap.size + 1 := by rw [hw1]; simp
  have Hx1 := hid (HW.out.mod hm (fun _ _ h => h))
  clear HW
  clear hw1 hm
  go_upto_region 1 with (fail)
  refine wp_region_U 23 [4, 5, 6, 7] [0, 1, 2, 3] (fun a0 HA0 => ?_)
  have oe0 := ev HA0 0 rfl
  have oe3 := ev HA0 3 rfl
  refine QSeq.pure rfl _ (fun E => ex_move rfl (E.v oe0)) ?_
  refine QSeq.pure rfl (.pointer (some ⟨w.heap.size, 0, none⟩)) (fun E => ex_field rfl Try.underlying47 rfl (by kernel_rfl) (E.v oe3)) ?_
  refine QSeq.pure rfl _ (fun E => ex_load1 rfl Try.underlying3 rfl (E.d 1 0) (Cs.pre1 HB3.out rfl)) ?_
  refine QSeq.call rfl rfl Try.func52 (WInt_Q Hx1.out HOK.out.rp (by have := HL.out; simp only [List.length_append] at this ⊢; omega)) (fun E => args2 (E.d 0 2) (E.d 2 0)) ?_
  rintro e u1_3 ⟨rfl, qwr, hm⟩
  refine ⟨_, rfl, ?_⟩
  have Hx2 := hid (qwr.widen (R' := (fun k => (R k) ∨ (New w1 u1_3 k))) (fun _ h => h) (Nat.le_refl _))
  have zu1_3 := hm.size
  have Cx3 := hid (show Mod (fun k => (R k)) w1 u1_3 from hm)
  clear hm
  clear qwr Hx1
  refine QSeq.nil (t' := [_, _, _, _]) rfl ?_
  obtain rfl := HA0.out
  clear HA0 oe0 oe3
  simp only [pz, Act.put, List.setIfInBounds_toArray, List.set_cons_zero, List.set_cons_succ]
  go_upto_region 2 with (fail)
  refine wp_region_U 23 [8, 9, 10, 11] [0, 1, 2, 3] (fun a0 HA0 => ?_)
  have oe0 := ev HA0 0 rfl
  have oe3 := ev HA0 3 rfl
  refine QSeq.pure rfl _ (fun E => ex_move rfl (E.v oe0)) ?_
  refine QSeq.pure rfl (.pointer (some ⟨w.heap.size, 1, none⟩)) (fun E => ex_field rfl Try.underlying47 rfl (by kernel_rfl) (E.v oe3)) ?_
  refine QSeq.pure rfl _ (fun E => ex_loadA rfl Try.underlying30 rfl (off := 1) (cs := [.int .i64 x.cl, .int .i64 x.sq]) (by kernel_rfl) (E.d 1 0) (Cs.preA (HB3.out.mod Cx3.out (by intro h2; first | omega | (have hb := HBR.out _ h2; omega))) rfl)) ?_
  refine QSeq.call rfl rfl Try.func74 (PutName_Q Hx2.out (by intro k h1; rcases h1 with h1 | h1 <;> first | omega | (have hb := HBR.out k h1; omega)) HOK.out.cl HOK.out.sq (by have := HL.out; simp only [List.length_append] at this ⊢; omega)) (fun E => args2 (E.d 0 2) (E.d 2 0)) ?_
  rintro e u2_3 ⟨rfl, qwr, hm⟩
  refine ⟨_, rfl, ?_⟩
  have Hx4 := hid (qwr.widen (R' := (fun k => (R k) ∨ (New w1 u1_3 k) ∨ (New u1_3 u2_3 k))) (by intro k h1; simp only [or_assoc] at h1 ⊢; exact h1) (Nat.le_refl _))
  have zu2_3 := hm.size
  have Cx5 := hid (show Mod (fun k => (R k) ∨ (New w1 u1_3 k)) u1_3 u2_3 from hm)
  clear hm
  clear qwr Hx2
  refine QSeq.nil (t' := [_, _, _, _]) rfl ?_
  obtain rfl := HA0.out
  clear HA0 oe0 oe3
  simp only [pz, Act.put, List.setIfInBounds_toArray, List.set_cons_zero, List.set_cons_succ]
  go_upto_region 3 with (fail)
  generalize ha0 : Act.mk _ _ = a0
  have oe0 : a0.eval (.tmp 0) = .pointer (some ⟨g, 0, none⟩) := by rw [← ha0]; rfl
  have oe3 : a0.eval (.tmp 3) = .pointer (some ⟨w.heap.size, 0, none⟩) := by rw [← ha0]; rfl
  have hsz0 : a0.tmps.size = 23 := by rw [← ha0]; rfl
  have HA0 := hid ha0
  clear ha0
  refine wp_region_Q1 23 hsz0 [12, 13, 14, 15, 16, 17, 18] (fun k => (R k) ∨ (New w1 u1_3 k) ∨ (New u1_3 u2_3 k)) (fun k j => (k = 0 ∧ ((R j) ∨ (New w1 u1_3 j) ∨ (New u1_3 u2_3 j))) ∨ (k = 1 ∧ ((R j) ∨ (New w1 u1_3 j) ∨ (New u1_3 u2_3 j)))) (by intro k j h; (try dsimp only at h ⊢); rcases h with ⟨-, h | h | h⟩ | ⟨-, h | h | h⟩; (exact Or.inl (h)); (exact Or.inr (Or.inl (h))); (exact Or.inr (Or.inr (h))); (exact Or.inl (h)); (exact Or.inr (Or.inl (h))); (exact Or.inr (Or.inr (h)))) [qi (.pointer (some ⟨g, 0, none⟩)), qi (.pointer (some ⟨w.heap.size, 3, none⟩)), qi (hv x.h), qi (.pointer (some ⟨g, 0, none⟩)), qi (.pointer (some ⟨w.heap.size, 35, none⟩)), qi (.int .u64 (x.tm : Nat)), qi (.pointer (some ⟨g, 0, none⟩))] ⟨qi_stable, qi_stable, qi_stable, qi_stable, qi_stable, qi_stable, qi_stable, trivial⟩ [3, 6] ⟨?_, ?_, ?_, ?_, ?_, ?_, ?_, trivial⟩ ?_
  · exact stq (fun E => ex_move rfl (E.v oe0))
  · exact stq (fun E => ex_field rfl Try.underlying47 rfl (by kernel_rfl) (E.v oe3))
  · exact stq (fun E => ex_loadA rfl Try.underlying32 rfl (off := 3) (cs := x.h.map bv) (by rw [List.length_map, HOK.out.h.1]; exact size_hash) (E.d 1) (Cs.midA (((HB3.out.mod Cx3.out (by intro h2; first | omega | (have hb := HBR.out _ h2; omega))).mod Cx5.out (by intro h2; rcases h2 with h2 | h2 <;> first | omega | (have hb := HBR.out _ h2; omega))).mod E.m (by intro h2; rcases h2 with ⟨h0, h2 | h2 | h2⟩ | h2 <;> first | omega | (have hb := HBR.out _ h2; omega))) rfl))
  · exact stepq_chain rfl
  · exact stq (fun E => ex_field rfl Try.underlying47 rfl (by kernel_rfl) (E.v oe3))
  · exact stq (fun E => ex_load1 rfl Try.underlying45 rfl (E.d 4) (Cs.post1 (m := 32) (k := 0) (((HB3.out.mod Cx3.out (by intro h2; first | omega | (have hb := HBR.out _ h2; omega))).mod Cx5.out (by intro h2; rcases h2 with h2 | h2 <;> first | omega | (have hb := HBR.out _ h2; omega))).mod E.m (by intro h2; rcases h2 with ⟨h0, h2 | h2 | h2⟩ | h2 <;> first | omega | (have hb := HBR.out _ h2; omega))) (by rw [List.length_map]; exact HOK.out.h.1) rfl rfl))
  · exact stepq_chain rfl
  intro u3_0 hr
  have zu3_0 := hr.size
  have Cx6 := hid (hr.new (S := (fun k => (R k) ∨ (New w1 u1_3 k) ∨ (New u1_3 u2_3 k))))
  have Hx7 := hid (Hx4.out.mod hr (by intro k h1 h2; rcases h1 with h1 | h1 | h1 <;> first | omega | (have hb := HBR.out k h1; omega)))
  clear Hx4
  clear hr
  refine QChain.go fun Z act E => ?_
  refine qc_callF (args := #[.pointer (some ⟨g, 0, none⟩), hv x.h]) rfl (wanted_none rfl) rfl Try.func69 (args2 (E.d 0) (E.d 2)) (WHash_Q Hx7.out HOK.out.h (by have := HL.out; simp only [List.length_append] at this ⊢; omega)) ?_
  rintro e u3_1a ⟨rfl, qwr, hm⟩
  have zu3_1a := hm.size
  refine ⟨_, rfl, hm.mono (by intro k hk h; rcases h with h | h | h <;> first | omega | exact Or.inl ⟨(by have hb := HBR.out k h; omega), Or.inl ⟨rfl, Or.inl h⟩⟩), (fun _ => rfl), ?_⟩
  intro u3_1 hr
  have zu3_1 := hr.size
  have Hx8 := hid ((qwr.widen (R' := (fun k => (R k) ∨ (New w1 u1_3 k) ∨ (New u1_3 u2_3 k) ∨ (New u3_0 u3_1a k))) (by intro k h1; simp only [or_assoc] at h1 ⊢; exact h1) (Nat.le_refl _)).mod hr (by intro k h1 h2; rcases h1 with h1 | h1 | h1 | h1 <;> first | omega | (have hb := HBR.out k h1; omega)))
  have Cx9 := hid (Cx6.out.goM hm hr (fun _ _ h => h))
  clear Cx6 hm hr Z act E qwr Hx7
  refine QChain.go fun Z act E => ?_
  refine qc_callF (args := #[.pointer (some ⟨g, 0, none⟩), .int .u64 (x.tm : Nat)]) rfl (wanted_none rfl) rfl Try.func75 (args2 (E.d 3) (E.d 5)) (WNum_Q Hx8.out HOK.out.tm (by have := HL.out; simp only [List.length_append] at this ⊢; omega)) ?_
  rintro e u3_2a ⟨rfl, qwr, hm⟩
  have zu3_2a := hm.size
  refine ⟨_, rfl, hm.mono (by intro k hk h; rcases h with h | h | h | h <;> first | omega | exact Or.inl ⟨(by have hb := HBR.out k h; omega), Or.inr (⟨rfl, Or.inl h⟩)⟩), (fun _ => rfl), ?_⟩
  intro u3_2 hr
  have zu3_2 := hr.size
  have Hx10 := hid ((qwr.widen (R' := (fun k => (R k) ∨ (New w1 u1_3 k) ∨ (New u1_3 u2_3 k) ∨ (New u3_0 u3_1a k) ∨ (New u3_1 u3_2a k))) (by intro k h1; simp only [or_assoc] at h1 ⊢; exact h1) (Nat.le_refl _)).mod hr (by intro k h1 h2; rcases h1 with h1 | h1 | h1 | h1 | h1 <;> first | omega | (have hb := HBR.out k h1; omega)))
  have Cx11 := hid (Cx9.out.goM hm hr (by intro k h0 h2; rcases h2 with h2 | h2 | h2 | h2 <;> first | omega | exact Or.inl h2 | exact Or.inr (Or.inl h2) | exact Or.inr (Or.inr (h2))))
  clear Cx9 hm hr Z act E qwr Hx8
  refine QChain.nil fun vs hl hzz hrows hne => ?_
  obtain ⟨Z, hYZ, hZb, hV⟩ := hzz
  have f0 := fvi hV hl 0
  have f3 := fvi hV hl 3
  have f6 := fvi hV hl 6
  rw [show vs = [gw vs 0, gw vs 1, gw vs 2, gw vs 3, gw vs 4, gw vs 5, gw vs 6] from (gw_eta hl).trans rfl]
  have ha0 := HA0.out
  subst ha0
  clear HA0 hV hYZ hZb hsz0 hrows hne oe0 oe3
  simp only [putAll, Act.put, List.setIfInBounds_toArray, List.set_cons_zero, List.set_cons_succ, f0, f3, f6]
  clear hl f0 f3 f6
  go_upto_region 4 with (fail)
  refine wp_region_U 23 [19, 20, 21, 22] [0, 1, 2, 3] (fun a0 HA0 => ?_)
  have oe0 := ev HA0 0 rfl
  have oe3 := ev HA0 3 rfl
  refine QSeq.pure rfl _ (fun E => ex_move rfl (E.v oe0)) ?_
  refine QSeq.pure rfl (.pointer (some ⟨w.heap.size, 36, none⟩)) (fun E => ex_field rfl Try.underlying47 rfl (by kernel_rfl) (E.v oe3)) ?_
  refine QSeq.pure rfl _ (fun E => ex_loadA rfl Try.underlying34 rfl (off := 36) (cs := [.int .i64 x.sb, .int .i64 x.mr]) (by kernel_rfl) (E.d 1 0) (Cs.postA (m := 32) (k := 1) (((HB3.out.mod Cx3.out (by intro h2; first | omega | (have hb := HBR.out _ h2; omega))).mod Cx5.out (by intro h2; rcases h2 with h2 | h2 <;> first | omega | (have hb := HBR.out _ h2; omega))).mod Cx11.out (by intro h2; rcases h2 with h2 | h2 | h2 <;> first | omega | (have hb := HBR.out _ h2; omega))) (by rw [List.length_map]; exact HOK.out.h.1) rfl rfl)) ?_
  refine QSeq.call rfl rfl Try.func122 (PutSig_Q Hx10.out (by intro k h1; rcases h1 with h1 | h1 | h1 | h1 | h1 <;> first | omega | (have hb := HBR.out k h1; omega)) HOK.out.sb HOK.out.mr (by have := HL.out; simp only [List.length_append] at this ⊢; omega)) (fun E => args2 (E.d 0 2) (E.d 2 0)) ?_
  rintro e u4_3 ⟨rfl, qwr, hm⟩
  refine ⟨_, rfl, ?_⟩
  have Hx12 := hid (qwr.widen (R' := (fun k => (R k) ∨ (New w1 u1_3 k) ∨ (New u1_3 u2_3 k) ∨ (New u3_0 u3_1a k) ∨ (New u3_1 u3_2a k) ∨ (New u3_2 u4_3 k))) (by intro k h1; simp only [or_assoc] at h1 ⊢; exact h1) (Nat.le_refl _))
  have zu4_3 := hm.size
  have Cx13 := hid (show Mod (fun k => (R k) ∨ (New w1 u1_3 k) ∨ (New u1_3 u2_3 k) ∨ (New u3_0 u3_1a k) ∨ (New u3_1 u3_2a k)) u3_2 u4_3 from hm)
  clear hm
  clear qwr Hx10
  refine QSeq.nil (t' := [_, _, _, _]) rfl ?_
  obtain rfl := HA0.out
  clear HA0 oe0 oe3
  simp only [pz, Act.put, List.setIfInBounds_toArray, List.set_cons_zero, List.set_cons_succ]
  go_wp2
  go_end0
  have hq := (Hx12.out.widen (R' := (fun k => R k ∨ New w u4_3 k)) (by intro k h1; rcases h1 with h1 | h1 | h1 | h1 | h1 | h1 <;> first | exact Or.inl h1 | (right; omega)) (Nat.le_refl _))
  simp only [List.append_assoc] at hq
  exact ⟨rfl, by simpa only [stB, List.append_assoc] using hq, ((((HM0.out.trans Cx3.out (fun _ _ h => h)).trans Cx5.out (by intro k h1 h2; rcases h2 with h2 | h2 <;> first | exact h2 | omega | (have hb := HBR.out k h2; omega))).trans Cx11.out (by intro k h1 h2; rcases h2 with h2 | h2 | h2 <;> first | exact h2 | omega | (have hb := HBR.out k h2; omega))).trans Cx13.out (by intro k h1 h2; rcases h2 with h2 | h2 | h2 | h2 | h2 <;> first | exact h2 | omega | (have hb := HBR.out k h2; omega)))⟩
set_option maxHeartbeats 4000000 in
theorem PutList_St : PutsL StR 123 83 stB := by
  intro R R2 g bs v l w hW hB hs hB2 hD hl
  obtain ⟨ao, cap, rfl⟩ := hs.shape
  have hb64 : l.length ≤ maxLen := hs.bd
  rw [maxLen_val] at hb64
  have HI64 := hid (show I64 (l.length : Int) by unfold I64; omega)
  have HW := Lib.hid hW
  have HS := Lib.hid hs
  have HBR := Lib.hid hB
  have HBT := Lib.hid hB2
  have HDJ := Lib.hid hD
  have HL := Lib.hid hl
  clear hW hB hs hB2 hD hl
  unfold listB at HL
  go_enter Try.func123, Try.ntmps123
  go_upto_region 0 with (fail)
  have HM0 := hid (Mod.refl (fun k => (R k)) w)
  go_upto_region 0 with (fail)
  refine wp_region_U 23 [8, 9, 10, 11] [0, 1, 2, 3] (fun a0 HA0 => ?_)
  have oe0 := ev HA0 0 rfl
  have oe1 := ev HA0 1 rfl
  refine QSeq.pure rfl _ (fun E => ex_move rfl (E.v oe0)) ?_
  refine QSeq.pure rfl _ (fun E => ex_move rfl (E.v oe1)) ?_
  refine QSeq.pure rfl (.int .i64 l.length) (fun E => ex_lenS rfl (E.d 1 0) Try.underlying82) ?_
  refine QSeq.call rfl rfl Try.func52 (WInt_Q HW.out HI64.out (by have := HL.out; simp only [List.length_append] at this ⊢; omega)) (fun E => args2 (E.d 0 2) (E.d 2 0)) ?_
  rintro e u0_3 ⟨rfl, qwr, hm⟩
  refine ⟨_, rfl, ?_⟩
  have Hx1 := hid (qwr.widen (R' := (fun k => (R k) ∨ (New w u0_3 k))) (fun _ h => h) (Nat.le_refl _))
  have zu0_3 := hm.size
  have Cx2 := hid (show Mod (fun k => (R k)) w u0_3 from hm)
  clear hm
  clear qwr HW
  refine QSeq.nil (t' := [_, _, _, _]) rfl ?_
  obtain rfl := HA0.out
  clear HA0 oe0 oe1
  simp only [pz, Act.put, List.setIfInBounds_toArray, List.set_cons_zero, List.set_cons_succ]
  go_wp2
  go_loopw [14] (fun t wr => ∃ k : Nat, t = .int .i64 (k : Int) ∧ k ≤ l.length ∧ u0_3.heap.size ≤ wr.heap.size ∧ WrR (fun b => R b ∨ (w.heap.size ≤ b ∧ b < wr.heap.size)) 900000 wr g (bs ++ (encI l.length ++ ((l.take k).map stB).flatten)) ∧ RdS StR R2 wr (.slice ao l.length cap) l ∧ Mod R w wr) (fun t _ => l.length - (intOf t).toNat)
  case atStart => exact ⟨0, rfl, Nat.zero_le _, Nat.le_refl _, by have hq := (Hx1.out.widen (R' := (fun k => R k ∨ (w.heap.size ≤ k ∧ k < u0_3.heap.size))) (by intro k h1; rcases h1 with h1 | h1 <;> first | exact Or.inl h1 | (right; omega)) (Nat.le_refl _)); simpa only [List.take_zero, List.map_nil, List.flatten_nil, List.append_nil] using hq, (HS.out.mod Cx2.out (by intro k h1 h2; first | omega | (have hb := HBT.out k h1; omega) | (have hb := HBR.out k h2; omega) | exact HDJ.out k h1 h2 | exact HDJ.out k h2 h1 | (have hb := HBT.out k h1; have hb2 := HBR.out k h2; omega))), (HM0.out.trans Cx2.out (fun _ _ h => h))⟩
  case round =>
    obtain ⟨k, rfl, hk, hz, hw, hs, hm⟩ := hrel
    have HW2 := Lib.hid hw
    have HS2 := Lib.hid hs
    have HM2 := Lib.hid hm
    clear hw hs hm Hx1 HS HM0
    obtain ⟨wo, rfl⟩ : ∃ x, x = wr := ⟨_, rfl⟩
    by_cases hlt : k < l.length
    · skip
      obtain ⟨g0, o0, cs, rfl, hrg, hrd, hcs⟩ := HS2.out.at hlt
      have hcl : cs.length = 38 := StR.len hrd
      have HCL := Lib.hid hcl
      have HAT := hid (show CellsAt R2 wo g0 (o0 + k * 38) cs from ⟨hrg, hcs⟩)
      have HRD := Lib.hid hrd
      have HOC := hid (StR.one hrd)
      clear hcl hcs hrd hrg
      have HE : Hid (bs ++ (encI l.length ++ ((l.take k).map stB).flatten) ++ stB l[k] = bs ++ (encI l.length ++ ((l.take (k + 1)).map stB).flatten)) := hid (by rw [List.take_succ_eq_append_getElem hlt, List.map_append, List.flatten_append]; simp [List.append_assoc])
      have HLk := hid (show (bs ++ (encI l.length ++ ((l.take k).map stB).flatten) ++ stB l[k]).length ≤ 900000 by rw [HE.out]; exact Nat.le_trans (put_len _ _ _ _ _) HL.out)
      go_upto_region 3 with (fail)
      refine wp_region_U 23 [16, 17, 7, 26] [0, 1, 2, 3] (fun a0 HA0 => ?_)
      have oe12 := ev HA0 12 rfl
      have oe14 := ev HA0 14 rfl
      refine QSeq.pure rfl (.pointer (some ⟨g0, o0 + k * 38, none⟩)) (fun E => ex_idxS (i := k) (s := 38) rfl Try.underlying82 (by kernel_rfl) (E.v oe12) (E.v oe14) (by omega)) ?_
      refine QSeq.pure rfl _ (fun E => ex_loadA rfl Try.underlying47 rfl (off := o0 + k * 38) (cs := cs) (by rw [HCL.out]; kernel_rfl) (E.d 0 0) (fun j u hu => (HAT.out).2 j u hu)) ?_
      refine QSeq.go fun act E => ?_
      refine qc_alloc rfl (wanted_none rfl) rfl (z := [.int .i64 0, .int .i64 0, .int .i64 0, .int .u8 0, .int .u8 0, .int .u8 0, .int .u8 0, .int .u8 0, .int .u8 0, .int .u8 0, .int .u8 0, .int .u8 0, .int .u8 0, .int .u8 0, .int .u8 0, .int .u8 0, .int .u8 0, .int .u8 0, .int .u8 0, .int .u8 0, .int .u8 0, .int .u8 0, .int .u8 0, .int .u8 0, .int .u8 0, .int .u8 0, .int .u8 0, .int .u8 0, .int .u8 0, .int .u8 0, .int .u8 0, .int .u8 0, .int .u8 0, .int .u8 0, .int .u8 0, .int .u64 0, .int .i64 0, .int .i64 0]) (by kernel_rfl) ?_
      intro u3_2 qq hm
      have zl3_2 := qq.lt
      have Hx3 := hid qq
      have zu3_2 := hm.size
      have Cx4 := hid (show Mod (fun _ => False) wo u3_2 from hm)
      clear hm
      clear act E qq
      refine QSeq.go fun act E => ?_
      have hlz : (cs).length = List.length ([.int .i64 0, .int .i64 0, .int .i64 0, .int .u8 0, .int .u8 0, .int .u8 0, .int .u8 0, .int .u8 0, .int .u8 0, .int .u8 0, .int .u8 0, .int .u8 0, .int .u8 0, .int .u8 0, .int .u8 0, .int .u8 0, .int .u8 0, .int .u8 0, .int .u8 0, .int .u8 0, .int .u8 0, .int .u8 0, .int .u8 0, .int .u8 0, .int .u8 0, .int .u8 0, .int .u8 0, .int .u8 0, .int .u8 0, .int .u8 0, .int .u8 0, .int .u8 0, .int .u8 0, .int .u8 0, .int .u8 0, .int .u64 0, .int .i64 0, .int .i64 0] : List Value) := (by rw [HCL.out]; rfl)
      refine qc_store rfl (wanted_none rfl) rfl Hx3.out (off := 0) (vs := cs) (by rw [hlz]; kernel_rfl) HOC.out (by rw [hlz]; exact Nat.le_of_eq (Nat.zero_add _)) (E.d 2 0) (ec (E.d 1 1)) ?_
      intro u3_3 qc0 hm
      have qq := qc0.eqv (b := (cs : List Value).toArray) (lay_whole #[.int .i64 0, .int .i64 0, .int .i64 0, .int .u8 0, .int .u8 0, .int .u8 0, .int .u8 0, .int .u8 0, .int .u8 0, .int .u8 0, .int .u8 0, .int .u8 0, .int .u8 0, .int .u8 0, .int .u8 0, .int .u8 0, .int .u8 0, .int .u8 0, .int .u8 0, .int .u8 0, .int .u8 0, .int .u8 0, .int .u8 0, .int .u8 0, .int .u8 0, .int .u8 0, .int .u8 0, .int .u8 0, .int .u8 0, .int .u8 0, .int .u8 0, .int .u8 0, .int .u8 0, .int .u8 0, .int .u8 0, .int .u64 0, .int .i64 0, .int .i64 0] _ (by rw [hlz]; rfl))
      clear qc0 hlz
      have Hx5 := hid qq
      have zu3_3 := hm.size
      have HMu3_3 := hid hm
      have Cx6 := hid (Mod.goS (S' := (fun _ => False)) Cx4.out hm (fun _ h => h) (by intro k h0 h2; omega))
      clear hm Cx4
      clear act E qq Hx3
      clear HMu3_3
      refine QSeq.nil (t' := [_, _, _, _]) rfl ?_
      obtain rfl := HA0.out
      clear HA0 oe12 oe14
      simp only [pz, Act.put, List.setIfInBounds_toArray, List.set_cons_zero, List.set_cons_succ, List.set_nil]
      go_upto_region 4 with (fail)
      refine wp_region_U 23 [18, 19, 20, 21] [0, 1, 2, 3] (fun a0 HA0 => ?_)
      have oe0 := ev HA0 0 rfl
      have oe2 := ev HA0 2 rfl
      have oe7 := ev HA0 7 rfl
      refine QSeq.pure rfl _ (fun E => ex_move rfl (E.v oe2)) ?_
      refine QSeq.pure rfl _ (fun E => ex_move rfl (E.v oe0)) ?_
      refine QSeq.pure rfl _ (fun E => ex_loadA rfl Try.underlying47 rfl (off := 0) (cs := cs) (by rw [HCL.out]; kernel_rfl) (E.v oe7) (Cs.whole Hx5.out)) ?_
      refine QSeq.go fun act E => ?_
      have ea19 : act.eval (.tmp 19) = .pointer (some ⟨g, 0, none⟩) := (E.d 1 1)
      have ea20 : act.eval (.tmp 20) = .agg cs.toArray := (E.d 2 0)
      refine qc_call (args := #[.pointer (some ⟨g, 0, none⟩), .agg cs.toArray]) rfl (wanted_none rfl) (by rw [ex_callV rfl (E.d 0 2) Try.func83 (by kernel_rfl) (by kernel_rfl)]; exact congrArg (fun z => Result.ok (Next.enter _ z) _) (by simp only [List.map_toArray, List.map_cons, List.map_nil, ea19, ea20]; try rfl)) (PutSt_Q _ _ _ _ _ _ _ (HW2.out.mod Cx6.out (fun _ _ h => h)) (by intro k h1; rcases h1 with h1 | h1 <;> first | omega | (have hb := HBR.out k h1; omega)) (HRD.out.mod Cx6.out (fun _ _ h => h)) (by intro k h1; have hb := HBT.out k h1; omega) (by intro k h1 h2; rcases h1 with h1 | h1 <;> first | omega | (have hb := HBR.out k h1; omega) | (have hb := HBT.out k h2; omega) | exact HDJ.out k h1 h2 | exact HDJ.out k h2 h1 | (have hb := HBR.out k h1; have hb2 := HBT.out k h2; omega)) HLk.out) ?_
      rintro e u4_3 ⟨rfl, qwr, hm⟩
      refine ⟨_, rfl, ?_⟩
      have Hx7 := hid (qwr.widen (R' := (fun k => (R k) ∨ (New w wo k) ∨ (New u3_3 u4_3 k))) (by intro k h1; simp only [or_assoc] at h1 ⊢; exact h1) (Nat.le_refl _))
      have zu4_3 := hm.size
      have Cx8 := hid (show Mod (fun k => (R k) ∨ (New w wo k)) u3_3 u4_3 from hm)
      clear hm
      clear act E qwr HW2 ea19 ea20
      refine QSeq.nil (t' := [_, _, _, _]) rfl ?_
      obtain rfl := HA0.out
      clear HA0 oe0 oe2 oe7
      simp only [pz, Act.put, List.setIfInBounds_toArray, List.set_cons_zero, List.set_cons_succ]
      have hq := Hx7.out
      rw [HE.out] at hq
      have HQ := Lib.hid hq
      clear hq
      go_wp2
      go_roundw
      case rel => exact ⟨k + 1, by go_num, by omega, by omega, (HQ.out.widen (by intro b h1; rcases h1 with h1 | h1 | h1 <;> first | exact Or.inl h1 | (right; omega)) (Nat.le_refl _)), ((HS2.out.mod Cx6.out (fun _ _ h => h)).mod Cx8.out (by intro k h1 h2; rcases h2 with h2 | h2 <;> first | omega | (have hb := HBT.out k h1; omega) | (have hb := HBR.out k h2; omega) | exact HDJ.out k h1 h2 | exact HDJ.out k h2 h1 | (have hb := HBT.out k h1; have hb2 := HBR.out k h2; omega))), ((HM2.out.trans Cx6.out (fun _ _ h => h.elim)).trans Cx8.out (by intro k h1 h2; rcases h2 with h2 | h2 <;> first | exact h2 | omega | (have hb := HBR.out k h2; omega)))⟩
      case measure => simp [intOf]; omega
    · have hkk : k = l.length := by omega
      subst hkk
      go_wp2
      go_end0
      have hq := HW2.out
      rw [List.take_length] at hq
      exact ⟨rfl, hq, HM2.out⟩
set_option maxHeartbeats 4000000 in
theorem PutCe_Q : Puts CeR 84 ceB := by
  intro R R2 g bs cs x w hW hB hx hB2 hD hl
  obtain ⟨v_l, rfl, hok, hs0⟩ := hx
  have HS0 := Lib.hid hs0
  clear hs0
  have HW := Lib.hid hW
  have HBR := Lib.hid hB
  have HBT := Lib.hid hB2
  have HDJ := Lib.hid hD
  have HOK := Lib.hid hok
  have HL := Lib.hid hl
  clear hW hB hB2 hD hl hok
  unfold ceB at HL
  go_enter Try.func84, Try.ntmps84
  go_upto_region 1 with (fail)
  obtain ⟨w1, hw1⟩ : ∃ zz, zz = (w.alloc (.cells (x.cells v_l : List Value).toArray 84)) := ⟨_, rfl⟩
  change Code.wp _ _ _ _ (w.alloc (.cells (x.cells v_l : List Value).toArray 84))
  rw [← hw1]
  have HB3 := hid (show Cs w1 (w.heap.size) (x.cells v_l : List Value).toArray 84 by rw [hw1]; exact Cs.new _ _ _)
  have hm : Mod (fun _ => False) w w1 := by rw [hw1]; exact (Mod.refl _ _).alloc _
  have HM0 := hid (show Mod (fun k => (R k)) w w1 from hm.mono (fun _ _ h => h.elim))
  have hs1 : w1.heap.size = w.heap.size + 1 := by rw [hw1]; simp
  have Hx1 := hid (HW.out.mod hm (fun _ _ h => h))
  clear HW
  have Hx2 := hid (HS0.out.mod hm (fun _ _ h => h))
  clear HS0
  clear hw1 hm
  go_upto_region 1 with (fail)
  refine wp_region_U 12 [4, 5, 6, 7] [0, 1, 2, 3] (fun a0 HA0 => ?_)
  have oe0 := ev HA0 0 rfl
  have oe3 := ev HA0 3 rfl
  refine QSeq.pure rfl _ (fun E => ex_move rfl (E.v oe0)) ?_
  refine QSeq.pure rfl (.pointer (some ⟨w.heap.size, 0, none⟩)) (fun E => ex_field rfl Try.underlying84 rfl (by kernel_rfl) (E.v oe3)) ?_
  refine QSeq.pure rfl _ (fun E => ex_loadA rfl Try.underlying36 rfl (off := 0) (cs := x.c.cells) (by rw [Cm.len HOK.out.2.1]; exact size_commit) (E.d 1 0) (Cs.midA (pre := []) (mid := x.c.cells) (post := [v_l]) HB3.out rfl)) ?_
  refine QSeq.call rfl rfl Try.func82 (PutCm_Q _ (fun _ => False) _ _ _ _ _ Hx1.out (by intro k h1; have hb := HBR.out k h1; omega) ⟨rfl, HOK.out⟩ (fun _ h => h.elim) (fun _ _ h => h.elim) (by have := HL.out; simp only [List.length_append] at this ⊢; omega)) (fun E => args2 (E.d 0 2) (E.d 2 0)) ?_
  rintro e u1_3 ⟨rfl, qwr, hm⟩
  refine ⟨_, rfl, ?_⟩
  have Hx3 := hid (qwr.widen (R' := (fun k => (R k) ∨ (New w1 u1_3 k))) (fun _ h => h) (Nat.le_refl _))
  have zu1_3 := hm.size
  have Cx4 := hid (show Mod (fun k => (R k)) w1 u1_3 from hm)
  clear hm
  clear qwr Hx1
  refine QSeq.nil (t' := [_, _, _, _]) rfl ?_
  obtain rfl := HA0.out
  clear HA0 oe0 oe3
  simp only [pz, Act.put, List.setIfInBounds_toArray, List.set_cons_zero, List.set_cons_succ]
  go_upto_region 2 with (fail)
  refine wp_region_U 12 [8, 9, 10, 11] [0, 1, 2, 3] (fun a0 HA0 => ?_)
  have oe0 := ev HA0 0 rfl
  have oe3 := ev HA0 3 rfl
  refine QSeq.pure rfl _ (fun E => ex_move rfl (E.v oe0)) ?_
  refine QSeq.pure rfl (.pointer (some ⟨w.heap.size, 37, none⟩)) (fun E => ex_field rfl Try.underlying84 rfl (by kernel_rfl) (E.v oe3)) ?_
  refine QSeq.pure rfl _ (fun E => ex_load1 rfl Try.underlying82 rfl (E.d 1 0) (Cs.post1 (pre := []) (mid := x.c.cells) (post := [v_l]) (m := 37) (k := 0) (HB3.out.mod Cx4.out (by intro h2; first | omega | (have hb := HBR.out _ h2; omega))) (Cm.len HOK.out.2.1) rfl rfl)) ?_
  refine QSeq.call rfl rfl Try.func123 (PutList_St _ _ _ _ _ _ _ Hx3.out (by intro k h1; rcases h1 with h1 | h1 <;> first | omega | (have hb := HBR.out k h1; omega)) (Hx2.out.mod Cx4.out (by intro k h1 h2; first | omega | (have hb := HBT.out k h1; omega) | (have hb := HBR.out k h2; omega) | exact HDJ.out k h1 h2 | exact HDJ.out k h2 h1 | (have hb := HBT.out k h1; have hb2 := HBR.out k h2; omega))) (by intro k h1; have hb := HBT.out k h1; omega) (by intro k h1 h2; rcases h1 with h1 | h1 <;> first | omega | (have hb := HBR.out k h1; omega) | (have hb := HBT.out k h2; omega) | exact HDJ.out k h1 h2 | exact HDJ.out k h2 h1 | (have hb := HBR.out k h1; have hb2 := HBT.out k h2; omega)) (by have := HL.out; simp only [List.length_append] at this ⊢; omega)) (fun E => args3 (E.d 0 2) (E.d 2 0) rfl) ?_
  rintro e u2_3 ⟨rfl, qwr, hm⟩
  refine ⟨_, rfl, ?_⟩
  have Hx5 := hid (qwr.widen (R' := (fun k => (R k) ∨ (New w1 u1_3 k) ∨ (New u1_3 u2_3 k))) (by intro k h1; simp only [or_assoc] at h1 ⊢; exact h1) (Nat.le_refl _))
  have zu2_3 := hm.size
  have Cx6 := hid (show Mod (fun k => (R k) ∨ (New w1 u1_3 k)) u1_3 u2_3 from hm)
  clear hm
  clear qwr Hx3
  refine QSeq.nil (t' := [_, _, _, _]) rfl ?_
  obtain rfl := HA0.out
  clear HA0 oe0 oe3
  simp only [pz, Act.put, List.setIfInBounds_toArray, List.set_cons_zero, List.set_cons_succ]
  go_wp2
  go_end0
  have hq := (Hx5.out.widen (R' := (fun k => R k ∨ New w u2_3 k)) (by intro k h1; rcases h1 with h1 | h1 | h1 <;> first | exact Or.inl h1 | (right; omega)) (Nat.le_refl _))
  simp only [List.append_assoc] at hq
  exact ⟨rfl, by simpa only [ceB, List.append_assoc] using hq, ((HM0.out.trans Cx4.out (fun _ _ h => h)).trans Cx6.out (by intro k h1 h2; rcases h2 with h2 | h2 <;> first | exact h2 | omega | (have hb := HBR.out k h2; omega)))⟩
end Go.Proofs.Ytpnikilkcifncaa

/- What the readers of parts answer, in plain words; that what was put is read as it was, and that what is read was put so. -/
namespace Go.Proofs.Ytpnikilkcifncaa
open Go Go.RowKit Go.Gv

/-- one read behind the other -/
def gb {α β : Type} (g : RSt → α × RSt) (k : α → RSt → β × RSt) (s : RSt) : β × RSt := k (g s).1 (g s).2
/-- a number up to 2^40 -/
def gI (s : RSt) : Int × RSt := (((rInt 1099511627776 s).1 : Nat), (rInt 1099511627776 s).2)
def gItems {α : Type} (g : RSt → α × RSt) : Nat → List α → RSt → List α × RSt
  | 0, acc, s => (acc, s)
  | n + 1, acc, s => if (g s).2 = none then ([], none) else gItems g n (acc ++ [(g s).1]) (g s).2
def gList {α : Type} (g : RSt → α × RSt) (s : RSt) : List α × RSt := gItems g (rInt 100 s).1 [] (rInt 100 s).2
def gSig : RSt → (Int × Int) × RSt := gb gI fun a => gb gI fun b s => ((a, b), s)
def gCm : RSt → Cm × RSt := gb gSig fun n => gb rHash fun h => gb gI fun l => gb gSig fun g s => (⟨n.1, n.2, h, l, g.1, g.2⟩, s)
def gSt : RSt → St × RSt := gb gI fun p => gb gSig fun n => gb rHash fun h => gb rNum fun t => gb gSig fun g s => (⟨p, n.1, n.2, h, t, g.1, g.2⟩, s)
def gCe : RSt → Ce × RSt := gb gCm fun c => gb (gList gSt) fun l s => (⟨c, l⟩, s)
def gPm : RSt → Pm × RSt := gb gI fun p => gb gI fun e => gb rNum fun f => gb (gList gCe) fun l => gb gSig fun g s => (⟨p, e, f, l, g.1, g.2⟩, s)
def gOp : RSt → Op × RSt := gb gI fun i => gb (rRow 256) fun p => gb rHash fun h s => (⟨i, p, h⟩, s)
def gDn : RSt → Dn × RSt := gb gI fun p => gb gI fun i => gb gSig fun g s => (⟨p, i, g.1, g.2⟩, s)
def gTb : RSt → Tb × RSt := gb gI fun i => gb (gList gDn) fun l s => (⟨i, l⟩, s)
def gBa : RSt → Ba × RSt := gb gI fun e => gb rNum fun t => gb (gList gPm) fun p => gb (gList gOp) fun o => gb (gList gTb) fun m s => (⟨e, t, p, o, m⟩, s)
def gVt : RSt → Vt × RSt := gb gI fun k => gb gI fun e => gb gI fun r => gb gI fun p => gb rHash fun h => gb gSig fun g s => (⟨k, e, r, p, h, g.1, g.2⟩, s)
def gEn : RSt → En × RSt := gb gSig fun n => gb rHash fun h => gb rNum fun t s => (⟨n.1, n.2, h, t⟩, s)

/-- what was put is read as it was -/
def Ed {α : Type} (g : RSt → α × RSt) (put : α → List Int) (ok : α → Prop) : Prop := ∀ x r, ok x → g (some (put x ++ r)) = (x, some r)
/-- what is read was put so -/
def De {α : Type} (g : RSt → α × RSt) (Q : α → List Int → List Int → Prop) : Prop := ∀ s r, (g s).2 = some r → ∃ l, s = some l ∧ (Bytes l → Q (g s).1 l r)
def Was {α : Type} (put : α → List Int) (ok : α → Prop) (x : α) (l r : List Int) : Prop := l = put x ++ r ∧ ok x
/-- the numbers that are read -/
def UpI (x : Int) : Prop := 0 ≤ x ∧ x ≤ 1099511627776
theorem gI_ed : Ed gI encI UpI := by
  intro x r h
  obtain ⟨h0, h1⟩ := h
  obtain ⟨n, rfl⟩ := Int.eq_ofNat_of_zero_le h0
  unfold gI
  rw [encI_nat, rInt_enc (by unfold U64; omega), if_neg (by omega)]
theorem rNum_ed : Ed rNum encN (· < U64) := fun x r h => rNum_enc h r
theorem rHash_ed : Ed rHash (fun h => h) (fun h => h.length = 32) := fun x r h => rHash_app h r
theorem rRow_ed (most : Int) (hm : most ≤ 1000000) : Ed (rRow most) (fun b => encN b.length ++ b) (fun b => (b.length : Int) ≤ most) := by
  intro x r h
  have := rRow_enc (bs := x) (by unfold U64; omega) most r
  rw [if_neg (by omega)] at this
  simpa only [List.append_assoc] using this
theorem De.bind {α β : Type} {g : RSt → α × RSt} {k : α → RSt → β × RSt} {put : α → List Int} {ok : α → Prop} {Q : α → β → List Int → List Int → Prop} (hg : De g (Was put ok)) (hk : ∀ a, De (k a) (Q a)) :
    De (gb g k) (fun y l r => ∃ a l1, ok a ∧ l = put a ++ l1 ∧ Q a y l1 r) := by
  intro s r h
  obtain ⟨l1, e1, h1⟩ := hk _ _ _ h
  obtain ⟨l, rfl, h2⟩ := hg _ _ e1
  refine ⟨l, rfl, fun hb => ?_⟩
  obtain ⟨h3, h4⟩ := h2 hb
  refine ⟨_, l1, h4, h3, h1 (fun x hx => hb x ?_)⟩
  rw [h3]
  exact List.mem_append_right _ hx
theorem De.pure {β : Type} (y : β) : De (fun s => (y, s)) (fun y' l r => y' = y ∧ l = r) := by
  intro s r h
  exact ⟨r, h, fun _ => ⟨rfl, rfl⟩⟩
theorem De.mono {β : Type} {g : RSt → β × RSt} {Q Q' : β → List Int → List Int → Prop} (h : De g Q) (hq : ∀ y l r, Q y l r → Q' y l r) : De g Q' := by
  intro s r hr
  obtain ⟨l, e, h2⟩ := h s r hr
  exact ⟨l, e, fun hb => hq _ _ _ (h2 hb)⟩
/-- lists -/
def listOk {α : Type} (ok : α → Prop) (l : List α) : Prop := l.length ≤ 100 ∧ ∀ a ∈ l, ok a
theorem gItems_ed {α : Type} {g : RSt → α × RSt} {put : α → List Int} {ok : α → Prop} (h : Ed g put ok) : ∀ (l acc : List α) (r : List Int), (∀ a ∈ l, ok a) → gItems g l.length acc (some ((l.map put).flatten ++ r)) = (acc ++ l, some r) := by
  intro l
  induction l with
  | nil => intro acc r _; simp [gItems]
  | cons a l ih =>
    intro acc r ha
    simp only [List.length_cons, List.map_cons, List.flatten_cons, List.append_assoc, gItems]
    rw [h a _ (ha a (List.mem_cons_self ..)), if_neg (by simp), ih _ _ (fun b hb => ha b (List.mem_cons_of_mem _ hb))]
    simp
theorem gList_ed {α : Type} {g : RSt → α × RSt} {put : α → List Int} {ok : α → Prop} (h : Ed g put ok) : Ed (gList g) (listB put) (listOk ok) := by
  intro l r ⟨h1, h2⟩
  unfold gList listB
  rw [List.append_assoc, encI_nat, rInt_enc (by unfold U64; omega), if_neg (by omega)]
  simpa using gItems_ed h l [] r h2
theorem De.none {α : Type} {g : RSt → α × RSt} {Q : α → List Int → List Int → Prop} (h : De g Q) : ∀ s, s = none → (g s).2 = none := by
  intro s e
  cases hq : (g s).2 with
  | none => rfl
  | some r => obtain ⟨l, e2, -⟩ := h s r hq; rw [e] at e2; cases e2
/-! printed -/
def sgB (p : Int × Int) : List Int := encI p.1 ++ encI p.2
def sgOk (p : Int × Int) : Prop := UpI p.1 ∧ UpI p.2
def CmOk (x : Cm) : Prop := UpI x.cl ∧ UpI x.sq ∧ HK x.h ∧ UpI x.ln ∧ UpI x.sb ∧ UpI x.mr
def StOk (x : St) : Prop := UpI x.rp ∧ UpI x.cl ∧ UpI x.sq ∧ HK x.h ∧ x.tm < U64 ∧ UpI x.sb ∧ UpI x.mr
def CeOk (x : Ce) : Prop := CmOk x.c ∧ listOk StOk x.l
def PmOk (x : Pm) : Prop := UpI x.rp ∧ UpI x.ep ∧ x.fl < U64 ∧ listOk CeOk x.l ∧ UpI x.sb ∧ UpI x.mr
def OpOk (x : Op) : Prop := UpI x.ix ∧ (x.pl.length : Int) ≤ 256 ∧ HK x.nc
def DnOk (x : Dn) : Prop := UpI x.rp ∧ UpI x.ix ∧ UpI x.sb ∧ UpI x.mr
def TbOk (x : Tb) : Prop := UpI x.ix ∧ listOk DnOk x.l
def BaOk (x : Ba) : Prop := UpI x.ep ∧ x.tm < U64 ∧ listOk PmOk x.ps ∧ listOk OpOk x.os ∧ listOk TbOk x.ts
def VtOk (x : Vt) : Prop := UpI x.kd ∧ UpI x.ep ∧ UpI x.rd ∧ UpI x.rp ∧ HK x.h ∧ UpI x.sb ∧ UpI x.mr
def EnOk (x : En) : Prop := UpI x.cl ∧ UpI x.sq ∧ HK x.h ∧ x.tm < U64
theorem gSig_ed : Ed gSig sgB sgOk := by
  intro x r ⟨h1, h2⟩
  simp only [gSig, gb, sgB, List.append_assoc, gI_ed _ _ h1, gI_ed _ _ h2]
theorem sgB_sig (a b : Int) : sgB (a, b) = sigB a b := rfl
theorem sgB_name (a b : Int) : sgB (a, b) = nameB a b := rfl
theorem gCm_ed : Ed gCm cmB CmOk := by
  intro x r h
  obtain ⟨hc, hs, hh, hl, hb, hm⟩ := h
  simp only [gCm, gb, cmB, ← sgB_sig, ← sgB_name, List.append_assoc, gSig_ed (x.cl, x.sq) _ ⟨hc, hs⟩, rHash_ed _ _ hh.1, gI_ed _ _ hl, gSig_ed (x.sb, x.mr) _ ⟨hb, hm⟩]
theorem gSt_ed : Ed gSt stB StOk := by
  intro x r h
  obtain ⟨hr, hc, hs, hh, ht, hb, hm⟩ := h
  simp only [gSt, gb, stB, ← sgB_sig, ← sgB_name, List.append_assoc, gI_ed _ _ hr, gSig_ed (x.cl, x.sq) _ ⟨hc, hs⟩, rHash_ed _ _ hh.1, rNum_ed _ _ ht, gSig_ed (x.sb, x.mr) _ ⟨hb, hm⟩]
theorem gCe_ed : Ed gCe ceB CeOk := by
  intro x r h
  obtain ⟨hc, hl⟩ := h
  simp only [gCe, gb, ceB, ← sgB_sig, ← sgB_name, List.append_assoc, gCm_ed _ _ hc, gList_ed gSt_ed _ _ hl]
theorem gPm_ed : Ed gPm pmB PmOk := by
  intro x r h
  obtain ⟨hr, he, hf, hl, hb, hm⟩ := h
  simp only [gPm, gb, pmB, ← sgB_sig, ← sgB_name, List.append_assoc, gI_ed _ _ hr, gI_ed _ _ he, rNum_ed _ _ hf, gList_ed gCe_ed _ _ hl, gSig_ed (x.sb, x.mr) _ ⟨hb, hm⟩]
theorem rowx {b r : List Int} (h : (b.length : Int) ≤ 256) : rRow 256 (some (encN b.length ++ (b ++ r))) = (b, some r) := by
  have := rRow_ed 256 (by decide) b r h
  simpa only [List.append_assoc] using this
theorem gOp_ed : Ed gOp opB OpOk := by
  intro x r h
  obtain ⟨hi, hp, hn⟩ := h
  simp only [gOp, gb, opB, ← sgB_sig, ← sgB_name, List.append_assoc, gI_ed _ _ hi, rowx hp, rHash_ed _ _ hn.1]
theorem gDn_ed : Ed gDn dnB DnOk := by
  intro x r h
  obtain ⟨hr, hi, hb, hm⟩ := h
  simp only [gDn, gb, dnB, ← sgB_sig, ← sgB_name, List.append_assoc, gI_ed _ _ hr, gI_ed _ _ hi, gSig_ed (x.sb, x.mr) _ ⟨hb, hm⟩]
theorem gTb_ed : Ed gTb tbB TbOk := by
  intro x r h
  obtain ⟨hi, hl⟩ := h
  simp only [gTb, gb, tbB, ← sgB_sig, ← sgB_name, List.append_assoc, gI_ed _ _ hi, gList_ed gDn_ed _ _ hl]
theorem gBa_ed : Ed gBa baB BaOk := by
  intro x r h
  obtain ⟨he, ht, hp, ho, hb⟩ := h
  simp only [gBa, gb, baB, ← sgB_sig, ← sgB_name, List.append_assoc, gI_ed _ _ he, rNum_ed _ _ ht, gList_ed gPm_ed _ _ hp, gList_ed gOp_ed _ _ ho, gList_ed gTb_ed _ _ hb]
theorem gVt_ed : Ed gVt vtB VtOk := by
  intro x r h
  obtain ⟨hk, he, hr, hp, hh, hb, hm⟩ := h
  simp only [gVt, gb, vtB, ← sgB_sig, ← sgB_name, List.append_assoc, gI_ed _ _ hk, gI_ed _ _ he, gI_ed _ _ hr, gI_ed _ _ hp, rHash_ed _ _ hh.1, gSig_ed (x.sb, x.mr) _ ⟨hb, hm⟩]
theorem gEn_ed : Ed gEn enB EnOk := by
  intro x r h
  obtain ⟨hc, hs, hh, ht⟩ := h
  simp only [gEn, gb, enB, ← sgB_sig, ← sgB_name, List.append_assoc, gSig_ed (x.cl, x.sq) _ ⟨hc, hs⟩, rHash_ed _ _ hh.1, rNum_ed _ _ ht]
end Go.Proofs.Ytpnikilkcifncaa

/- gavelref01.Reader: numbers, rows, hashes as the document reads them; code.Reader.Row for any bound. -/
namespace Go.Proofs.Ytpnikilkcifncaa
open Go Go.RowKit Go.Gv

end Go.Proofs.Ytpnikilkcifncaa

/- gavelref01.Reader: rows. -/
namespace Go.Proofs.Ytpnikilkcifncaa
open Go Go.RowKit Go.Gv

end Go.Proofs.Ytpnikilkcifncaa

/- gavelref01.Reader: hashes. -/
namespace Go.Proofs.Ytpnikilkcifncaa
open Go Go.RowKit Go.Gv

section
variable {R : Nat → Prop} {r : Nat} {s : RSt} {w : World}
end
end Go.Proofs.Ytpnikilkcifncaa

/- code.Reader.Row with any bound, over a text that is not long. -/
namespace Go.Proofs.Ytpnikilkcifncaa
open Go Go.RowKit Go.Gv

end Go.Proofs.Ytpnikilkcifncaa

/- A block's cells as parts, one behind the other: what lies at a part, what is laid over one, what a struct is built of. No program here. -/
namespace Go.Gv
open Go Go.RowKit

theorem seg_get : ∀ (segs : List (List Value)) (i : Nat) {seg : List Value} (hs : segs[i]? = some seg) (j : Nat) (u : Value), seg[j]? = some u → segs.flatten[((segs.map List.length).take i).sum + j]? = some u
  | [], i, seg, hs, j, u, hu => by simp at hs
  | a :: r, 0, seg, hs, j, u, hu => by
    simp only [List.getElem?_cons_zero, Option.some.injEq] at hs
    subst hs
    rw [List.take_zero, List.sum_nil, Nat.zero_add, List.flatten_cons, List.getElem?_append_left (List.getElem?_eq_some_iff.1 hu).1]
    exact hu
  | a :: r, i + 1, seg, hs, j, u, hu => by
    rw [List.getElem?_cons_succ] at hs
    rw [List.map_cons, List.take_succ_cons, List.sum_cons, List.flatten_cons, List.getElem?_append_right (by omega), show a.length + ((r.map List.length).take i).sum + j - a.length = ((r.map List.length).take i).sum + j by omega]
    exact seg_get r i hs j u hu
theorem Cs.seg {w : World} {g : Nat} {T : TypeId} {segs : List (List Value)} (h : Cs w g segs.flatten.toArray T) {ns : List Nat} (hn : segs.map List.length = ns) (i : Nat) {seg : List Value} (hs : segs[i]? = some seg) {off : Nat} (ho : (ns.take i).sum = off) : ∀ j u, seg[j]? = some u → w.cell? ⟨g, off + j, none⟩ = some u := by
  intro j u hu
  rw [h.cell, ← ho, ← hn]
  simpa using seg_get segs i hs j u hu
theorem Cs.seg1 {w : World} {g : Nat} {T : TypeId} {segs : List (List Value)} (h : Cs w g segs.flatten.toArray T) {ns : List Nat} (hn : segs.map List.length = ns) (i : Nat) {seg : List Value} (hs : segs[i]? = some seg) {off o k : Nat} (ho : (ns.take i).sum = o) (hk : off = o + k) {u : Value} (hu : seg[k]? = some u) : w.cell? ⟨g, off, none⟩ = some u := by
  subst hk
  exact h.seg hn i hs ho k u hu
theorem lay_mid (a m b : List Value) (vs : List Value) (h : vs.length = m.length) : lay (a ++ (m ++ b)).toArray a.length vs = (a ++ (vs ++ b)).toArray := by
  unfold lay
  congr 1
  simp [h]
theorem seg_split : ∀ (segs : List (List Value)) (i : Nat) {seg : List Value} (hs : segs[i]? = some seg), ∃ a b, segs.flatten = a ++ (seg ++ b) ∧ a.length = ((segs.map List.length).take i).sum ∧ ∀ v : List Value, (segs.set i v).flatten = a ++ (v ++ b)
  | [], i, seg, hs => by simp at hs
  | x :: r, 0, seg, hs => by
    simp only [List.getElem?_cons_zero, Option.some.injEq] at hs
    subst hs
    exact ⟨[], r.flatten, rfl, rfl, fun v => rfl⟩
  | x :: r, i + 1, seg, hs => by
    rw [List.getElem?_cons_succ] at hs
    obtain ⟨a, b, h1, h2, h3⟩ := seg_split r i hs
    refine ⟨x ++ a, b, by rw [List.flatten_cons, h1, List.append_assoc], by simp [h2], fun v => ?_⟩
    rw [List.set_cons_succ, List.flatten_cons, h3, List.append_assoc]
theorem lay_seg {segs : List (List Value)} {ns : List Nat} (hn : segs.map List.length = ns) (i : Nat) {vs : List Value} (hv : ns[i]? = some vs.length) {off : Nat} (ho : (ns.take i).sum = off) : lay segs.flatten.toArray off vs = ((segs.set i vs).flatten).toArray := by
  subst hn
  rw [List.getElem?_map] at hv
  cases hs : segs[i]? with
  | none => rw [hs] at hv; cases hv
  | some seg =>
    rw [hs] at hv
    simp only [Option.map_some, Option.some.injEq] at hv
    obtain ⟨a, b, h1, h2, h3⟩ := seg_split segs i hs
    rw [h1, h3, ← ho, ← h2]
    exact lay_mid a seg b vs hv.symm
/-- where parts of such lengths lie -/
def offs : Nat → List Nat → List (Nat × Nat)
  | _, [] => []
  | o, n :: ns => (o, n) :: offs (o + n) ns
theorem offs_get : ∀ (ns : List Nat) (o i : Nat), (offs o ns)[i]? = (ns[i]?).map fun n => (o + (ns.take i).sum, n)
  | [], o, i => by simp [offs]
  | n :: ns, o, 0 => by simp [offs]
  | n :: ns, o, i + 1 => by
    simp only [offs, List.getElem?_cons_succ, offs_get ns (o + n) i, List.take_succ_cons, List.sum_cons]
    congr 1
    funext m
    rw [Nat.add_assoc]
/-- parts, each where it belongs -/
def setAll : List (List Value) → List (Nat × Value) → List (List Value)
  | segs, [] => segs
  | segs, (i, v) :: ps => setAll (segs.set i v.cells.toList) ps
def PartsOk (ns : List Nat) : List (Nat × Value) → Prop
  | [] => True
  | (i, v) :: ps => ns[i]? = some v.cells.size ∧ PartsOk ns ps
theorem set_lens {segs : List (List Value)} {ns : List Nat} (hn : segs.map List.length = ns) (i : Nat) {vs : List Value} (hv : ns[i]? = some vs.length) : (segs.set i vs).map List.length = ns := by
  subst hn
  rw [List.map_set]
  exact List.ext_getElem? fun j => by
    rcases Nat.lt_trichotomy i j with h | h | h
    · rw [List.getElem?_set_ne (by omega)]
    · subst h
      rw [List.getElem?_set_self (List.getElem?_eq_some_iff.1 hv).1, hv]
    · rw [List.getElem?_set_ne (by omega)]
theorem laid_segs {places : List (Nat × Nat)} {ns : List Nat} (hp : places = offs 0 ns) : ∀ (parts : List (Nat × Value)) (segs : List (List Value)), segs.map List.length = ns → PartsOk ns parts → laid places segs.flatten parts = some (setAll segs parts).flatten
  | [], segs, _, _ => by unfold laid setAll; rfl
  | (i, v) :: ps, segs, hn, h => by
    obtain ⟨h1, h2⟩ := h
    have h1' : ns[i]? = some v.cells.toList.length := by simpa using h1
    have hl := lay_seg hn i h1' rfl
    unfold laid setAll
    rw [hp, offs_get, h1]
    simp only [Option.map_some, Nat.zero_add]
    have hlen : (ns.take i).sum + v.cells.size ≤ segs.flatten.length := by
      subst hn
      rw [List.getElem?_map] at h1
      cases hs : segs[i]? with
      | none => rw [hs] at h1; cases h1
      | some seg =>
        rw [hs] at h1
        simp only [Option.map_some, Option.some.injEq] at h1
        obtain ⟨a, b, e1, e2, -⟩ := seg_split segs i hs
        rw [e1, ← e2, ← h1]
        simp
    rw [if_neg (by omega)]
    have e : (segs.flatten.take (ns.take i).sum ++ v.cells.toList ++ segs.flatten.drop ((ns.take i).sum + v.cells.size)) = (segs.set i v.cells.toList).flatten := by
      have := congrArg Array.toList hl
      simpa [lay] using this
    simp only [e] at *
    rw [← hp]
    exact laid_segs hp ps _ (set_lens hn i h1') h2
end Go.Gv

/- Readers of parts: what they leave of a text, whether what they read is a thing of its kind; contracts. -/
namespace Go.Proofs.Ytpnikilkcifncaa
open Go Go.RowKit Go.Gv

/-- what is left is an end of what there was -/
def Suf {α : Type} (g : RSt → α × RSt) : Prop := ∀ s, (g s).2 = none ∨ ∃ l k, s = some l ∧ (g s).2 = some (l.drop k)
theorem Suf.no {α : Type} {g : RSt → α × RSt} (h : Suf g) : (g none).2 = none := by
  rcases h none with h | ⟨l, k, e, -⟩
  · exact h
  · cases e
theorem Suf.bytes {α : Type} {g : RSt → α × RSt} (h : Suf g) {s : RSt} (hb : Bytes (s.getD [])) : Bytes ((g s).2.getD []) := by
  rcases h s with e | ⟨l, k, rfl, e⟩
  · rw [e]; exact Bytes.nil
  · rw [e]; exact Bytes.drop hb k
theorem Suf.len {α : Type} {g : RSt → α × RSt} (h : Suf g) (s : RSt) : ((g s).2.getD []).length ≤ (s.getD []).length := by
  rcases h s with e | ⟨l, k, rfl, e⟩
  · rw [e]; simp
  · rw [e]; simp
/-! what is read is a thing -/
theorem gI_I64 (s : RSt) : I64 (gI s).1 := by
  have := rInt_le 1099511627776 s
  unfold gI I64
  simp only
  omega
theorem RrR.bytes {T : TypeId} {R : Nat → Prop} {w : World} {r : Nat} {s : RSt} (h : RrR T R w r s) : Bytes (s.getD []) := by
  obtain ⟨v, h1, -⟩ := h
  exact h1.2.1.1
/-! contracts -/
/-- a flat thing is read -/
def GetsF {α : Type} (T : TypeId) (F : FuncId) (cells : α → List Value) (g : RSt → α × RSt) : Prop := ∀ (R : Nat → Prop) (r : Nat) (s : RSt) (w : World), RrR T R w r s → (∀ k, R k → k < w.heap.size) →
  Calls Try.prog F #[.pointer (some ⟨r, 0, none⟩)] w fun e w' => e = .returned (.agg (cells (g s).1).toArray) ∧ RrR T R w' r (g s).2 ∧ Mod R w w'
/-- a thing is read -/
def Gets {α : Type} (A : Rep α) (T : TypeId) (F : FuncId) (g : RSt → α × RSt) : Prop := ∀ (R : Nat → Prop) (r : Nat) (s : RSt) (w : World), RrR T R w r s → (∀ k, R k → k < w.heap.size) → (s.getD []).length ≤ 900000 →
  Calls Try.prog F #[.pointer (some ⟨r, 0, none⟩)] w fun e w' => ∃ cs, e = .returned (.agg cs.toArray) ∧ A.rd (New w w') w' cs (g s).1 ∧ RrR T R w' r (g s).2 ∧ Mod R w w'
theorem Gets.to {α : Type} {A : Rep α} {T : TypeId} {F : FuncId} {g : RSt → α × RSt} (h : Gets A T F g) {s s' : RSt} {x : α} (hx : (g s).1 = x) (hs : (g s).2 = s') {R : Nat → Prop} {r : Nat} {w : World} (h1 : RrR T R w r s) (h2 : ∀ k, R k → k < w.heap.size) (h3 : (s.getD []).length ≤ 900000) :
    Calls Try.prog F #[.pointer (some ⟨r, 0, none⟩)] w fun e w' => ∃ cs, e = .returned (.agg cs.toArray) ∧ A.rd (New w w') w' cs x ∧ RrR T R w' r s' ∧ Mod R w w' := by
  subst hx hs
  exact h R r s w h1 h2 h3
theorem GetsF.to {α : Type} {cells : α → List Value} {T : TypeId} {F : FuncId} {g : RSt → α × RSt} (h : GetsF T F cells g) {A : Rep α} (hA : ∀ (R : Nat → Prop) (w : World) (s : RSt), Bytes (s.getD []) → A.rd R w (cells (g s).1) (g s).1) : Gets A T F g := by
  intro R r s w h1 h2 h3
  exact (h R r s w h1 h2).mono fun e w' ⟨he, h4, h5⟩ => ⟨_, he, hA _ _ s h1.bytes, h4, h5⟩
section
variable {R : Nat → Prop} {r : Nat} {s : RSt} {w : World}
theorem cI_Q (h : RrR 183 R w r s) : Calls Try.prog 63 #[.pointer (some ⟨r, 0, none⟩), .int .i64 1099511627776] w fun e w' => e = .returned (.int .i64 (gI s).1) ∧ RrR 183 R w' r (gI s).2 ∧ Mod R w w' := RInt_R h (by decide)
end
end Go.Proofs.Ytpnikilkcifncaa

/- gavelref01.join: bytes, one behind the other; a region that joins what calls answer. -/
namespace Go.Gv
open Go Go.RowKit
section
variable {P : Program} {o : Oper} {a : Act} {w w' : World}
end
/-- marks turn no cell -/
theorem Marked.cell {B : Nat} {T8 : TypeId} {w w' : World} (hm : Marked B T8 w w') {p : Addr} {u : Value} (h : w.cell? p = some u) : w'.cell? p = some u := by
  have hlt := World.block_lt_of_cell? _ _ h
  rcases hm.block p.block hlt with h1 | ⟨-, C, m, h1, h2⟩
  · exact (World.cell?_of_block h1).trans h
  · unfold World.cell? at h ⊢
    rw [h1] at h
    rw [h2]
    exact h
theorem Rd.cells {s n : Nat} {w w' : World} {v : Value} {cs : List Value} (h : Rd s w v n cs) (hc : ∀ p u, w.cell? p = some u → w'.cell? p = some u) : Rd s w' v n cs := by
  obtain ⟨hl, ao, cap, rfl, h1, h2, h3, h4⟩ := h
  exact ⟨hl, ao, cap, rfl, h1, h2, h3, fun x hx j u hu => ⟨(h4 x hx j u hu).1, hc _ _ (h4 x hx j u hu).2⟩⟩
theorem Rd.old {s n : Nat} {w : World} {v : Value} {cs : List Value} (hs : 0 < s) (h : Rd s w v n cs) (h0 : 0 < n) : ∀ g, v.ownBlock = some g → g < w.heap.size := by
  rcases h.form hs with ⟨rfl, _⟩ | ⟨g, o, cap, _, rfl, _, _, hl, hc⟩
  · omega
  · intro g' hg
    have e : g = g' := by simpa [Value.ownBlock] using hg
    subst e
    have hlt : 0 < cs.length := by rw [hl]; exact Nat.mul_pos h0 hs
    exact World.block_lt_of_cell? _ _ (hc 0 _ (List.getElem?_eq_getElem hlt))
end Go.Gv
namespace Go.Proofs.Ytpnikilkcifncaa
open Go Go.RowKit Go.Gv

theorem RdB.cells {w w' : World} {v : Value} {bs : List Int} (h : RdB w v bs) (hc : ∀ p u, w.cell? p = some u → w'.cell? p = some u) : RdB w' v bs := ⟨h.1, h.2.cells hc⟩
/-- rows of bytes: the outer list, and each row where it lies -/
structure RdJ (w : World) (v : Value) (rs : List (Value × List Int)) : Prop where
  o : Rd 1 w v rs.length (rs.map (·.1))
  f : ∀ p ∈ rs, RdB w p.1 p.2
theorem RdJ.cells {w w' : World} {v : Value} {rs : List (Value × List Int)} (h : RdJ w v rs) (hc : ∀ p u, w.cell? p = some u → w'.cell? p = some u) : RdJ w' v rs := ⟨h.o.cells hc, fun p hp => (h.f p hp).cells hc⟩
theorem RdJ.shape {w : World} {v : Value} {rs : List (Value × List Int)} (h : RdJ w v rs) : ∃ ao cap, v = .slice ao rs.length cap := by
  obtain ⟨_, ao, cap, e, _⟩ := h.o
  exact ⟨ao, cap, e⟩
theorem RdJ.at {w : World} {ao : Option Addr} {n cap : Nat} {rs : List (Value × List Int)} (h : RdJ w (.slice ao n cap) rs) {i : Nat} (hi : i < rs.length) :
    ∃ g o, ao = some ⟨g, o, none⟩ ∧ g < w.heap.size ∧ w.cell? ⟨g, o + i, none⟩ = some rs[i].1 := by
  rcases h.o.form (by decide) with ⟨h0, _⟩ | ⟨g, o, cap', h0, hv, h1, h2, hl, hc⟩
  · omega
  · simp only [Value.slice.injEq] at hv
    obtain ⟨rfl, rfl, rfl⟩ := hv
    exact ⟨g, o, rfl, h.o.old (by decide) h0 g rfl, hc i _ (by simp [List.getElem?_eq_getElem hi])⟩
/-- a new outer list -/
theorem RdJ.new {w : World} {e : TypeId} {rs : List (Value × List Int)} (h : ∀ p ∈ rs, RdB w p.1 p.2) (hl : rs.length ≤ 1000) {C : Array Value} (hC : C = (rs.map (·.1)).toArray) {n : Nat} (hn : n = rs.length) : RdJ (w.alloc (.cells C e)) (.slice (some ⟨w.heap.size, 0, none⟩) n n) rs := by
  subst hC
  subst hn
  refine ⟨Rd.mk (Nat.le_refl _) (by rw [maxLen_val]; omega) (by simp) fun j y hy => ?_, fun p hp => (h p hp).alloc _⟩
  rw [Nat.zero_add, (Cs.new w _ e).cell]
  simpa using hy
def flat (rs : List (Value × List Int)) : List Int := (rs.map (·.2)).flatten
theorem litG.rd {B K : Nat} {bs : List Int} {t : List Value} {v : Value} {w : World} (h : litG B 5 K (bs.map bv).toArray t v w) (hk : t.length ≤ K) (hb : Bytes bs) (hl : bs.length ≤ 1000000) : RdB w v bs := by
  obtain ⟨g, rfl, -, m, -, h4⟩ := h hk
  have e : (bs.map bv).toArray.size = bs.length := by simp
  rw [e]
  refine ⟨hb, Rd.mk (Nat.le_refl _) (by rw [maxLen_val]; omega) (by simp) fun j y hy => ?_⟩
  rw [Nat.zero_add]
  simp only [World.cell?, h4]
  simpa using hy
theorem StillM.obj {B K k : Nat} {w w' : World} (h : StillM B 5 K k w w') {g : Nat} {c : Array Value} {e : TypeId} (hc : Cs w g c e) (he : e ≠ 5) : Cs w' g c e := by
  rcases h with h | ⟨-, h⟩
  · exact hc.mod h (fun h => h)
  · rcases h.block g hc.lt with h1 | ⟨-, C, m, h1, -⟩
    · exact h1.trans hc
    · unfold Cs at hc
      rw [hc] at h1
      cases h1
      exact absurd rfl he
end Go.Proofs.Ytpnikilkcifncaa

/- Bytes in regions told step by step: appends, rows of rows, strings as bytes, writers' ends. -/
namespace Go.Proofs.Ytpnikilkcifncaa
open Go Go.RowKit Go.Gv

section
variable {ops : Array Oper} {Q : Exit → Act → World → Prop} {i : Nat} {o : Oper} {a : Act} {w : World} {KQ : Value → World → Prop} {B : Nat} {S0 Z : Nat → Prop} {t : List Value} {l : List QPred}
theorem ql.rd {bs : List Int} {v : Value} (hb : Bytes bs) (h : ql B 5 (bs.map bv).toArray Z t v w) (hl : bs.length ≤ 1000000) : ∃ R : Nat → Prop, (∀ j, R j → B ≤ j ∧ ¬ Z j ∧ j < w.heap.size) ∧ RdR R bs.length w v bs := by
  obtain ⟨g, rfl, hB, hZ, m, h4⟩ := h
  have e : (bs.map bv).toArray.size = bs.length := by simp
  refine ⟨fun k => k = g, fun j hj => by subst hj; exact ⟨hB, hZ, (Array.getElem?_eq_some_iff.1 h4).1⟩, ⟨hb, ?_⟩, fun _ k hk => by cases hk; rfl, Nat.le_refl _⟩
  rw [e]
  refine Rd.mk (Nat.le_refl _) (by rw [maxLen_val]; omega) (by simp) fun j y hy => ?_
  rw [Nat.zero_add]
  simp only [World.cell?, h4]
  simpa using hy
/-- a string's bytes -/
def bytesOf (s : ByteArray) : List Int := s.data.toList.map fun b => (b.toNat : Int)
theorem bytesOf_len (s : ByteArray) : (bytesOf s).length = s.size := by unfold bytesOf; rw [List.length_map]; rfl
theorem bytesOf_ok (s : ByteArray) : Bytes (bytesOf s) := by
  intro x hx
  obtain ⟨b, -, rfl⟩ := List.mem_map.1 hx
  have := b.toNat_lt
  omega
theorem str_bytes (w : World) (s : ByteArray) (hs : s.size ≤ 1000000) : ∃ cap w', (convert 9 38 (.string s)).run Try.prog w = .ok (.slice (some ⟨w.heap.size, 0, none⟩) s.size cap) w' ∧ RdR (fun k => k = w.heap.size) 1000000 w' (.slice (some ⟨w.heap.size, 0, none⟩) s.size cap) (bytesOf s) ∧ Mod (fun _ => False) w w' ∧ w'.heap.size = w.heap.size + 1 := by
  refine ⟨_, _, Lib.run_convert_string_bytes (P := Try.prog) w _ _ 5 s Try.underlying9 Try.underlying38 Try.underlying5, ⟨⟨bytesOf_ok s, ?_⟩, (fun _ g hg => by cases hg; rfl), by rw [bytesOf_len]; exact hs⟩, ⟨rfl, rfl, rfl, by rw [Lib.bytesWorld_size]; omega, fun k hk _ => Lib.bytesWorld_at_old w _ s k hk⟩, Lib.bytesWorld_size w _ s⟩
  rw [bytesOf_len]
  refine Rd.mk (grownCap_ge w s.size 0 _) (grownCap_le_maxLen w s.size 0 _ (by rw [maxLen_val]; omega)) (by rw [List.length_map, bytesOf_len, Nat.mul_one]) fun j u hu => ?_
  rw [Nat.zero_add]
  have hj : j < s.size := by have := (List.getElem?_eq_some_iff.1 hu).1; rwa [List.length_map, bytesOf_len] at this
  rw [Lib.bytesWorld_cell w _ s j hj, ← hu]
  simp only [bytesOf, List.map_map, List.getElem?_map]
  have hj2 : j < s.data.toList.length := by rw [Array.length_toList]; exact hj
  rw [List.getElem?_eq_getElem hj2]
  simp only [Option.map_some, Function.comp, List.getD, List.getElem?_eq_getElem hj2, Option.getD_some]
theorem ex_convW {P : Program} {o : Oper} {a : Act} {w w' : World} {src dst : TypeId} {x : Operand} {u v : Value} (ho : o.op = .convert src dst x) (hx : a.eval x = u) (hr : (convert src dst u).run P w = .ok v w') : (execOp a.eval o).run P w = .ok (.value v) w' := by
  unfold execOp; simp [ho, hx, hr]
/-- beside the chain a string is made bytes -/
theorem qe_strB {x : Operand} {s : ByteArray} (ho : ops[i]? = some o) (hw : Region.wanted o (yielded ops a.tmps) = true) (hop : o.op = .convert 9 38 x) (hx : a.eval x = .string s) (hs : s.size ≤ 1000000) (hB : B ≤ w.heap.size) (hZ : ∀ j, Z j → j < w.heap.size)
    (hv : ∀ v w', qr B S0 (fun R w v => RdR R 1000000 w v (bytesOf s)) Z t v w' → (l.getD i qa) Z t v w') : wpOp Try.prog ops Q i (QJ B l Z i o t a w) a w := by
  obtain ⟨cap, w', hr, h1, h2, h3⟩ := str_bytes w s hs
  refine qe_run ho hw (ex_convW hop hx hr) (QE.still h2) (hv _ _ ⟨fun k => k = w.heap.size, fun j hj => ?_, h1⟩)
  subst hj
  exact ⟨by omega, fun h => by omega, fun h => by have := hZ _ h.2; omega⟩
theorem rdR_cells {bs : List Int} {N : Nat} : ∀ R w w' v, RdR R N w v bs → (∀ p u, R p.block → w.cell? p = some u → w'.cell? p = some u) → RdR R N w' v bs :=
  fun R w w' v h hk => ⟨⟨h.1.1, h.1.2.keepc fun h0 g hg p u hp hc => hk p u (hp ▸ h.2.1 h0 g hg) hc⟩, h.2⟩
theorem NewWriter_Q (w : World) : Calls Try.prog 51 #[] w fun e w' => ∃ b, e = .returned (.pointer (some ⟨b, 0, none⟩)) ∧ WrR (New w w') 900000 w' b [] ∧ Mod (fun _ => False) w w' :=
  (NewWriter_R w).mono fun e w' ⟨b, he, h, hm⟩ => ⟨b, he, h.widen (fun _ h => h) (by omega), hm⟩
theorem WBytes_Q {R : Nat → Prop} {b : Nat} {bs : List Int} {w : World} (hW : WrR R 900000 w b bs) :
    Calls Try.prog 54 #[.pointer (some ⟨b, 0, none⟩)] w fun e w' => ∃ v', e = .returned v' ∧ OwR (New w w') 900000 w' v' bs ∧ Mod (fun _ => False) w w' := WBytes_R hW (by omega)
end
end Go.Proofs.Ytpnikilkcifncaa

/- Copies and cuts of lists of things. -/
namespace Go.Proofs.Ytpnikilkcifncaa
open Go Go.RowKit Go.Gv

end Go.Proofs.Ytpnikilkcifncaa

/- Small parts of messages, read. -/
namespace Go.Proofs.Ytpnikilkcifncaa
open Go Go.RowKit Go.Gv

end Go.Proofs.Ytpnikilkcifncaa

/- Parts of messages, read. -/
namespace Go.Proofs.Ytpnikilkcifncaa
open Go Go.RowKit Go.Gv

end Go.Proofs.Ytpnikilkcifncaa

/- Things that are nothing. No walk here. -/
namespace Go.Proofs.Ytpnikilkcifncaa
open Go Go.RowKit Go.Gv

def zCe : Ce := ⟨⟨0, 0, List.replicate 32 0, 0, 0, 0⟩, []⟩
def zPm : Pm := ⟨0, 0, 0, [], 0, 0⟩
def zBa : Ba := ⟨0, 0, [], [], []⟩
theorem HK_zero : HK (List.replicate 32 0) := by
  refine ⟨by simp, ?_⟩
  intro x hx
  simp at hx
  subst hx
  decide
theorem I64_0 : I64 0 := by unfold I64; decide
theorem U64_0 : 0 < U64 := by unfold U64; decide
theorem zCe_OK : zCe.OK := ⟨⟨I64_0, I64_0, I64_0, I64_0, I64_0⟩, HK_zero⟩
theorem zPm_OK : zPm.OK := ⟨I64_0, I64_0, U64_0, I64_0, I64_0⟩
theorem zBa_OK : zBa.OK := ⟨I64_0, U64_0⟩
theorem zCe_rd (R : Nat → Prop) (w : World) : CeR.rd R w (zCe.cells (.slice none 0 0)) zCe := ⟨_, rfl, zCe_OK, RdS.nil _ _ _⟩
theorem zPm_rd (R : Nat → Prop) (w : World) : PmR.rd R w (zPm.cells (.slice none 0 0)) zPm := ⟨_, rfl, zPm_OK, RdS.nil _ _ _⟩
end Go.Proofs.Ytpnikilkcifncaa
