/- Texts that are built one behind the other: XCode1, XCode4, XKeep2, XCodeW, XPlain1, XReg, XLift, XFits, XIdx, XArith, XQ2, XQ4, XQ5, XS, XRef1, XJoin, XQ3, XSha1, XSha2, XSha3, XSha4, XActs, XLoc, XPlain2, XOwV, XNums, XSha5, XWc, XCm1, XCm2, XSet0, XTy, XCut1, XCut2. No condition. -/
import Derived.Test.YtpnikilkcifncaaGreatOnl1
import Derived.Deep.DeepMust
import Derived.Laws.CopyOwn
import Derived.OpenShut
import Derived.ProofKit
import Derived.ChangeOld
import Derived.Deep.Slices
import Derived.Laws.Small
import Derived.Lib.ConvBytes
import Derived.IntWalk
import Derived.Deep.Cut
import Derived.Deep.RegionHeld3
set_option maxRecDepth 100000
set_option linter.unusedVariables false
open List renaming setIfInBounds_toArray → sIB, set_cons_zero → sCZ, set_cons_succ → sCS
/- code.Writer: what each of its methods does to the bytes written. -/
namespace Go.Proofs.YtpnikilkcifncaaGreat
open Go Go.RowKit Go.Gv

/-- seven binary digits a byte, the lowest first -/
def encN (n : Nat) : List Int := if n < 128 then [(n : Int)] else ((n : Int) % 128 + 128) :: encN (n / 128)
termination_by n
decreasing_by omega

theorem encN_lt {n : Nat} (h : n < 128) : encN n = [(n : Int)] := by rw [encN, if_pos h]
theorem encN_ge {n : Nat} (h : 128 ≤ n) : encN n = ((n : Int) % 128 + 128) :: encN (n / 128) := by rw [encN, if_neg (by omega)]
theorem encN_len (k : Nat) : ∀ n, n < 128 ^ (k + 1) → 1 ≤ (encN n).length ∧ (encN n).length ≤ k + 1 := by
  induction k with
  | zero => intro n hn; rw [encN_lt (by omega)]; simp
  | succ k ih =>
    intro n hn
    by_cases h : n < 128
    · rw [encN_lt h]; simp
    · rw [encN_ge (by omega)]
      have := ih (n / 128) (by rw [Nat.pow_succ] at hn; omega)
      simp only [List.length_cons]; omega
theorem encN_pos (n : Nat) : 1 ≤ (encN n).length := by
  by_cases h : n < 128
  · rw [encN_lt h]; simp
  · rw [encN_ge (by omega)]; simp
theorem encN_len10 {n : Nat} (h : n < U64) : 1 ≤ (encN n).length ∧ (encN n).length ≤ 10 :=
  encN_len 9 n (Nat.lt_of_lt_of_le h (by unfold U64; decide))

theorem or128 (m : Nat) : bits .or .u8 ((m : Int) % 256) 128 = (m : Int) % 128 + 128 := by
  have e : ((m : Int) % 256) = ((m % 256 : Nat) : Int) := by omega
  have h := u8_or_nat (m % 256) 128 (by omega) (by omega)
  rw [e]
  refine h.trans ?_
  have d : ∀ x, x < 256 → x ||| 128 = x % 128 + 128 := by decide
  rw [d _ (by omega), Nat.mod_mod_of_dvd _ (by decide)]; omega

def Wr (w : World) (b : Nat) (v : Value) (bs : List Int) : Prop := Cs w b #[v] 155 ∧ OwnB w v bs
def WrTo (w : World) (b : Nat) (v : Value) (bs : List Int) (w' : World) : Prop :=
  ∃ v', Wr w' b v' bs ∧ Mod (fun k => k = b ∨ some k = v.ownBlock) w w' ∧ (v'.ownBlock = v.ownBlock ∨ ∃ k, v'.ownBlock = some k ∧ w.heap.size ≤ k)

theorem Wr.mod {S : Nat → Prop} {w w' : World} {b : Nat} {v : Value} {bs : List Int} (h : Wr w b v bs) (hm : Mod S w w') (hb : ¬ S b) (hv : ∀ g, v.ownBlock = some g → ¬ S g) : Wr w' b v bs :=
  ⟨h.1.mod hm hb, OwnB.mod h.2 hm hv⟩
theorem WrTo.refl {w : World} {b : Nat} {v : Value} {bs : List Int} (h : Wr w b v bs) : WrTo w b v bs w := ⟨v, h, Mod.refl _ _, .inl rfl⟩

theorem WrTo.trans {w w1 w2 : World} {b : Nat} {v v1 : Value} {bs2 : List Int} (hm : Mod (fun k => k = b ∨ some k = v.ownBlock) w w1)
    (hf : v1.ownBlock = v.ownBlock ∨ ∃ k, v1.ownBlock = some k ∧ w.heap.size ≤ k) (h : WrTo w1 b v1 bs2 w2) : WrTo w b v bs2 w2 := by
  obtain ⟨v', h1, h2, h3⟩ := h
  refine ⟨v', h1, hm.trans h2 ?_, ?_⟩
  · intro i hi hS
    rcases hS with hS | hS
    · exact .inl hS
    · rcases hf with hf | ⟨k, hf, hk⟩
      · exact .inr (hS.trans hf)
      · rw [hf] at hS; simp at hS; omega
  · rcases h3 with h3 | ⟨k, h3, hk⟩
    · rw [h3]; exact hf
    · exact .inr ⟨k, h3, Nat.le_trans hm.size hk⟩

/-- the store of what an append gave into the writer -/
theorem Wr_step {w w1 : World} {b : Nat} {v : Value} {bs : List Int} {v1 : Value} (hW : Wr w b v bs) (wx : World) (hx : Mod (fun _ => False) w wx) (new : List Int)
    (h : AppB wx v (bs ++ new) v1 w1) (hv : v.ownBlock ≠ some b) :
    w1.cell? ⟨b, 0, none⟩ = some v ∧ w1.frozen? ⟨b, 0, none⟩ = false ∧ WrTo w b v (bs ++ new) (w1.setCell ⟨b, 0, none⟩ v1) := by
  obtain ⟨hc, ho⟩ := hW
  obtain ⟨h1, h2, h3⟩ := h
  have hb : ¬ (some b = v.ownBlock) := fun e => hv e.symm
  have hc1 : Cs w1 b #[v] 155 := (hc.mod hx id).mod h2 hb
  refine ⟨by rw [hc1.cell]; rfl, hc1.frozen 0, v1, ⟨hc1.set 0 v1, ?_⟩, ?_, ?_⟩
  · refine Own.other h1 ?_ _
    intro g hg e
    subst e
    rcases h3 with h3 | ⟨k, h3, hk⟩
    · rw [h3] at hg; exact hv hg
    · rw [h3] at hg; simp at hg; subst hg; have := hc.lt; have := hx.size; omega
  · exact ((hx.mono (fun _ _ h => h.elim)).trans h2 (fun i _ h => .inr h)).setCell (fun _ => .inl rfl) _
  · rcases h3 with h3 | ⟨k, h3, hk⟩
    · exact .inl h3
    · exact .inr ⟨k, h3, Nat.le_trans hx.size hk⟩

theorem Wr_ne {w : World} {b : Nat} {v : Value} {bs : List Int} (hW : Wr w b v bs) : v.ownBlock ≠ some b := by
  obtain ⟨hc, _, _, ⟨rfl, _⟩ | ⟨g, cap, cur, rfl, hg, _⟩⟩ := hW
  · simp [Value.ownBlock]
  · simp only [Value.ownBlock, ne_eq, Option.some.injEq]
    intro e
    subst e
    unfold Cs at hc hg
    rw [hc] at hg
    simp at hg

theorem Num_any (b n : Nat) (v : Value) (bs : List Int) (w : World) (hW : Wr w b v bs) (hn : n < U64) (hl : bs.length + 10 ≤ Room) :
    Calls Tryz.prog 103 #[.pointer (some ⟨b, 0, none⟩), .int .u64 n] w fun e w' => e = .returned (.pointer (some ⟨b, 0, none⟩)) ∧ WrTo w b v (bs ++ encN n) w' := by
  have hen := encN_len10 hn
  clear hn
  go_enter Tryz.func103, Tryz.ntmps103
  go_wp2
  go_loopw [1] (fun t wr => ∃ (m : Nat) (bs' : List Int), t = .int .u64 m ∧ m ≤ n ∧ bs' ++ encN m = bs ++ encN n ∧ WrTo w b v bs' wr) (fun t _ => (intOf t).toNat)
  case atStart => exact ⟨n, bs, rfl, Nat.le_refl _, rfl, .refl hW⟩
  case round =>
    obtain ⟨m, bs', rfl, hm, hbs, v', hW', hmod, hfr⟩ := hrel
    have hlen : bs'.length + (encN m).length = bs.length + (encN n).length := by have := congrArg List.length hbs; simpa using this
    have hcell : wr.cell? ⟨b, 0, none⟩ = some v' := (hW'.1.cell 0).trans rfl
    have hlt := hW'.1.lt
    have hpos := encN_pos m
    have hroom : bs'.length + 1 ≤ Room := by omega
    have Hne := Lib.hid (Wr_ne hW')
    have Hbs := Lib.hid hbs
    have Hfr := Lib.hid hfr
    have Hm := Lib.hid hmod
    have Hr := Lib.hid hroom
    clear hbs hfr hmod hlen hl hen hroom hpos
    by_cases h128 : (128 : Int) ≤ m
    · have hor := or128 m
      go_wp2_with (at_builtin; refine wpList_appB rfl (.tmp 11) (.tmp 15) rfl rfl (hW'.2.alloc _) (new := [(m : Int) % 128 + 128]) rfl (RdB_one _ (by omega) (by omega) _) Hr.out ?_)
      intro ao cap w1 happ
      obtain ⟨hc1, hf1, hWT⟩ := Wr_step hW' _ ((Mod.refl _ _).alloc _) [(m : Int) % 128 + 128] happ Hne.out
      have HWT := Lib.hid hWT
      clear hWT happ hor
      go_wp2
      go_roundw
      case rel => exact ⟨m / 128, _, by go_num, by omega, by have := Hbs.out; rw [encN_ge (by omega)] at this; simpa using this, WrTo.trans Hm.out Hfr.out HWT.out⟩
      case measure => simp [intOf]; omega
    · go_wp2_with (at_builtin; refine wpList_appB rfl (.tmp 25) (.tmp 28) rfl rfl (hW'.2.alloc _) (new := [(m : Int)]) rfl (RdB_one _ (by omega) (by omega) _) Hr.out ?_)
      intro ao cap w1 happ
      obtain ⟨hc1, hf1, hWT⟩ := Wr_step hW' _ ((Mod.refl _ _).alloc _) [(m : Int)] happ Hne.out
      have HWT := Lib.hid hWT
      clear hWT happ
      go_wp2
      go_ret
      refine ⟨rfl, ?_⟩
      have hb := Hbs.out
      rw [encN_lt (by omega)] at hb
      rw [← hb]
      exact WrTo.trans Hm.out Hfr.out HWT.out

/-- a number from 0 on -/
def encI (n : Int) : List Int := encN (max 0 n).toNat

theorem WInt_any (b : Nat) (n : Int) (v : Value) (bs : List Int) (w : World) (hW : Wr w b v bs) (hn : -9223372036854775808 ≤ n ∧ n ≤ 9223372036854775807) (hl : bs.length + 10 ≤ Room) :
    Calls Tryz.prog 69 #[.pointer (some ⟨b, 0, none⟩), .int .i64 n] w fun e w' => e = .returned (.pointer (some ⟨b, 0, none⟩)) ∧ WrTo w b v (bs ++ encI n) w' := by
  have hU : (max 0 n).toNat < U64 := by unfold U64; omega
  have key := Num_any b (max 0 n).toNat v bs w hW hU hl
  have Hl := Lib.hid hl
  clear hU hl key
  by_cases h0 : 0 < n
  · obtain ⟨k, rfl⟩ := Int.eq_ofNat_of_zero_le (Int.le_of_lt h0)
    have ek : (max 0 (k : Int)).toNat = k := by omega
    unfold encI
    rw [ek]
    clear ek
    go_enter Tryz.func69, Tryz.ntmps69
    go_wp2_with (go_at_call 103; go_must (refine (Num_any b k v bs _ hW (by unfold U64; omega) Hl.out).mono ?_); rintro e w' ⟨rfl, hWT⟩; have HW := Lib.hid hWT; clear hWT)
    go_ret
    exact ⟨rfl, HW.out⟩
  · have ek : (max 0 n).toNat = 0 := by omega
    unfold encI
    rw [ek]
    clear ek
    go_enter Tryz.func69, Tryz.ntmps69
    go_wp2_with (go_at_call 103; go_must (refine (Num_any b 0 v bs _ hW (by unfold U64; omega) Hl.out).mono ?_); rintro e w' ⟨rfl, hWT⟩; have HW := Lib.hid hWT; clear hWT)
    go_ret
    exact ⟨rfl, HW.out⟩

theorem encI_len (n : Int) (hn : n ≤ 9223372036854775807) : 1 ≤ (encI n).length ∧ (encI n).length ≤ 10 := encN_len10 (by unfold U64; omega)
theorem encI_nat (n : Nat) : encI n = encN n := by unfold encI; congr 1

theorem NewWriter_any (w : World) :
    Calls Tryz.prog 68 #[] w fun e w' => e = .returned (.pointer (some ⟨w.heap.size, 0, none⟩)) ∧ Wr w' w.heap.size (.slice none 0 0) [] ∧ Mod (fun _ => False) w w' := by
  go_enter Tryz.func68, Tryz.ntmps68
  go_wp2
  go_ret
  exact ⟨rfl, ⟨Cs.new _ _ _, OwnB.nil _⟩, (Mod.refl _ _).alloc _⟩

/-- the bytes written, in new memory -/
theorem WBytes_any (b : Nat) (v : Value) (bs : List Int) (w : World) (hW : Wr w b v bs) (hl : bs.length ≤ Room) :
    Calls Tryz.prog 71 #[.pointer (some ⟨b, 0, none⟩)] w fun e w' => ∃ ao cap, e = .returned (.slice ao bs.length cap) ∧ OwnB w' (.slice ao bs.length cap) bs ∧ Fresh w (.slice ao bs.length cap) ∧ Mod (fun _ => False) w w' := by
  have hcell : w.cell? ⟨b, 0, none⟩ = some v := (hW.1.cell 0).trans rfl
  have Hl := Lib.hid (show ([] : List Int).length + bs.length ≤ Room by simpa using hl)
  clear hl
  go_enter Tryz.func71, Tryz.ntmps71
  go_wp2_with (at_builtin; refine wpList_appB rfl (.const (.slice none 0 0)) (.tmp 6) rfl rfl (OwnB.nil _) (new := bs) rfl hW.2.rd Hl.out ?_)
  intro ao cap w1 happ
  have HA := Lib.hid happ
  clear happ
  go_wp2
  go_ret
  obtain ⟨h1, h2, h3⟩ := HA.out
  simp only [List.length_nil, Nat.zero_add] at *
  refine ⟨ao, cap, rfl, h1, ?_, h2.mono (fun k _ hk => by simp [Value.ownBlock] at hk)⟩
  intro g hg
  rcases h3 with h3 | ⟨k, h3, hk⟩
  · rw [h3] at hg; cases hg
  · rw [h3] at hg; simp at hg; omega

theorem WRow_any (b : Nat) (v : Value) (bs : List Int) (ao : Option Addr) (cap : Nat) (cs : List Int) (w : World) (hW : Wr w b v bs) (hr : RdB w (.slice ao cs.length cap) cs)
    (hs : Apart (.slice ao cs.length cap) cs.length (fun k => k = b ∨ some k = v.ownBlock)) (hl : bs.length + cs.length + 10 ≤ Room) :
    Calls Tryz.prog 114 #[.pointer (some ⟨b, 0, none⟩), .slice ao cs.length cap] w fun e w' => e = .returned (.pointer (some ⟨b, 0, none⟩)) ∧ WrTo w b v (bs ++ (encN cs.length ++ cs)) w' := by
  have hR : cs.length < 9223372036854775807 := by unfold Room at hl; omega
  have HR := Lib.hid hR
  have h10 := encN_len10 (n := cs.length) (by unfold U64; omega)
  have Hl := Lib.hid (show (bs ++ encN cs.length).length + cs.length ≤ Room by simp; omega)
  have Hl2 := Lib.hid (show bs.length + 10 ≤ Room by omega)
  have Hs := Lib.hid hs
  clear hs hl hR h10
  go_enter Tryz.func114, Tryz.ntmps114
  go_wp2_with (first
    | (go_at_call 69; go_must (refine (WInt_any b cs.length v bs _ hW (by have := HR.out; omega) Hl2.out).mono ?_); rintro e w1 ⟨rfl, v1, hW1, hm1, hf1⟩; have hcell : w1.cell? ⟨b, 0, none⟩ = some v1 := (hW1.1.cell 0).trans rfl; rw [encI_nat] at hW1; have hr1 : RdB w1 (.slice ao cs.length cap) cs := hr.mod hm1 Hs.out; have HM1 := Lib.hid hm1; have HF1 := Lib.hid hf1; clear hm1 hf1)
    | (at_builtin; go_must (refine wpList_appB rfl (.tmp 13) (.tmp 14) rfl rfl hW1.2 (new := cs) rfl hr1 Hl.out ?_)))
  intro ao1 cap1 w2 happ
  rw [← List.append_assoc] at happ
  obtain ⟨hc1, hf1, hWT⟩ := Wr_step hW1 w1 (Mod.refl _ _) cs happ (Wr_ne hW1)
  have HWT := Lib.hid hWT
  clear hWT happ hr1 hr hW1 hW
  go_wp2
  go_ret
  refine ⟨rfl, ?_⟩
  rw [← List.append_assoc]
  exact WrTo.trans HM1.out HF1.out HWT.out
end Go.Proofs.YtpnikilkcifncaaGreat

/- code.Writer.Hash: 32 bytes behind what is written. -/
namespace Go.Proofs.YtpnikilkcifncaaGreat
open Go Go.RowKit Go.Gv

theorem WHash_any (b : Nat) (v : Value) (bs h : List Int) (w : World) (hW : Wr w b v bs) (hh : h.length = 32) (hB : Bytes h) (hl : bs.length + 32 ≤ Room) :
    Calls Tryz.prog 138 #[.pointer (some ⟨b, 0, none⟩), hv h] w fun e w' => e = .returned (.pointer (some ⟨b, 0, none⟩)) ∧ WrTo w b v (bs ++ h) w' := by
  have hlt := hW.1.lt
  obtain ⟨w1, e1, hW1, hc1, hm1⟩ : ∃ w1, w.alloc (.cells (h.map bv).toArray 25) = w1 ∧ Wr w1 b v bs ∧ Cs w1 w.heap.size (h.map bv).toArray 25 ∧ Mod (fun _ => False) w w1 :=
    ⟨_, rfl, hW.mod ((Mod.refl _ _).alloc _) id (fun _ _ => id), Cs.new _ _ _, (Mod.refl _ _).alloc _⟩
  have hcell : w1.cell? ⟨b, 0, none⟩ = some v := (hW1.1.cell 0).trans rfl
  have hrd : RdB w1 (.slice (some ⟨w.heap.size, 0, none⟩) 32 32) h := ⟨hB, by
    rw [hh]
    exact Rd.mk (Nat.le_refl _) (by rw [maxLen_val]; omega) (by simp [hh]) (fun j u hu => by rw [Nat.zero_add, hc1.cell]; simpa using hu)⟩
  have Hroom := Lib.hid (show bs.length + h.length ≤ Room by omega)
  have HW1 := Lib.hid hW1
  have HRD := Lib.hid hrd
  have HM1 := Lib.hid hm1
  have E1 := Lib.hid e1
  have HH := Lib.hid hh
  clear hW hc1 hrd hm1 hh hB hl e1 hW1
  unfold hv
  go_enter Tryz.func138, Tryz.ntmps138
  go_wp2_with fail
  rw [E1.out]
  go_region_law (refine step_appB rfl (.tmp 9) (.tmp 10) rfl rfl (OwnB.drew HW1.out.2) (new := h) rfl HRD.out.drew Hroom.out ?_; intro ao cap w2 happ; obtain ⟨hc2, hf2, hWT⟩ := Wr_step HW1.out _ ((Mod.refl _ _).drew) h happ (Wr_ne HW1.out); have HWT := Lib.hid hWT; clear hWT happ)
  go_wp2
  go_ret
  refine ⟨rfl, ?_⟩
  exact WrTo.trans (HM1.out.mono (fun _ _ h => h.elim)) (.inl rfl) HWT.out
end Go.Proofs.YtpnikilkcifncaaGreat

/- Package gavelkeep: bytes that are lent, that are intact, that are spoilt. -/
namespace Go.Proofs.YtpnikilkcifncaaGreat
open Go Go.RowKit Go.Gv

def lendc (bs : List Int) (k : Nat) : List Int := bs ++ (List.replicate k 85 ++ List.replicate (3 - k) 0)
/-- bytes that are lent: three more lie behind them -/
def Lent (w : World) (v : Value) (bs : List Int) : Prop := ∃ g, v = .slice (some ⟨g, 0, none⟩) bs.length (bs.length + 3) ∧ Cs w g ((lendc bs 3).map bv).toArray 5

end Go.Proofs.YtpnikilkcifncaaGreat

/- gavellaw01: the document's own example. -/
namespace Go.Proofs.YtpnikilkcifncaaGreat
open Go Go.RowKit Go.Gv

end Go.Proofs.YtpnikilkcifncaaGreat

/- The plain law of numbers and rows as bytes: what is written is read. -/
namespace Go.Proofs.YtpnikilkcifncaaGreat
open Go Go.RowKit Go.Gv

theorem pow128 (i : Nat) : 2 ^ (7 * (i + 1)) = 128 * 2 ^ (7 * i) := by rw [Nat.mul_add, Nat.pow_add, Nat.mul_comm]

theorem dec_enc (rest : List Int) : ∀ (m i acc : Nat), (i = 0 ∨ 1 ≤ m) → m * 2 ^ (7 * i) < U64 → i ≤ 9 → decGo i acc (encN m ++ rest) = some (acc + m * 2 ^ (7 * i), rest) := by
 intro m
 induction m using Nat.strongRecOn with
 | _ m ih =>
  intro i acc h1 h2 h3
  by_cases hm : m < 128
  ·rw [encN_lt hm]
   simp only [List.cons_append, List.nil_append, decGo]
   have n1 : ¬ (i = 9 ∧ (1 : Int) < m) := by
    rintro ⟨rfl, h⟩
    unfold U64 at h2
    simp only [Nat.reduceMul, Nat.reducePow] at h2
    omega
   rw [if_neg n1, if_pos (by omega), if_neg (by omega)]
   simp
  ·rw [encN_ge (by omega)]
   simp only [List.cons_append, decGo]
   have hp := pow128 i
   have hle : 128 * 2 ^ (7 * i) ≤ m * 2 ^ (7 * i) := Nat.mul_le_mul_right _ (by omega)
   have hi : i ≤ 8 := by
    rcases Nat.lt_or_ge i 9 with h | h
    ·omega
    ·obtain rfl : i = 9 := by omega
     unfold U64 at h2
     simp only [Nat.reduceMul, Nat.reducePow] at h2 hle
     omega
   have hdm : (m / 128) * 2 ^ (7 * (i + 1)) + (m % 128) * 2 ^ (7 * i) = m * 2 ^ (7 * i) := by
    rw [hp, ← Nat.mul_assoc, ← Nat.add_mul]
    congr 1
    omega
   rw [if_neg (by omega), if_neg (by omega)]
   have e : ((m : Int) % 128 + 128).toNat - 128 = m % 128 := by omega
   rw [e, ih (m / 128) (by omega) (i + 1) _ (.inr (by omega)) (by omega) (by omega)]
   congr 2
   omega

theorem rNum_enc {m : Nat} (hm : m < U64) (rest : List Int) : rNum (some (encN m ++ rest)) = (m, some rest) := by
 have := dec_enc rest m 0 0 (.inl rfl) (by simpa using hm) (by omega)
 simp [rNum, this]
theorem rTake_app {n : Nat} {a : List Int} (h : a.length = n) (rest : List Int) : rTake n (some (a ++ rest)) = (a, some rest) := by
 subst h
 simp [rTake]
@[simp] theorem rNum_none' : rNum none = (0, none) := rfl
@[simp] theorem rInt_none (most : Int) : rInt most none = (0, none) := by simp [rInt]
@[simp] theorem rTake_none (n : Nat) : rTake n none = ([], none) := rfl
@[simp] theorem rRow_none (most : Int) : rRow most none = ([], none) := by simp [rRow]
@[simp] theorem rHash_none : rHash none = (List.replicate 32 0, none) := rfl
end Go.Proofs.YtpnikilkcifncaaGreat

/- The contracts once more, each object with the blocks in which it lives (R): so that what one call does to one object leaves the others. -/
namespace Go.Proofs.YtpnikilkcifncaaGreat
open Go Go.RowKit Go.Gv

/-- a list of bytes (at most N) that is only read; its block, where it has one that matters, is in R -/
def RdR (R : Nat → Prop) (N : Nat) (w : World) (v : Value) (bs : List Int) : Prop := RdB w v bs ∧ (0 < bs.length → ∀ g, v.ownBlock = some g → R g) ∧ bs.length ≤ N
/-- a list of bytes that may be appended to, spoilt -/
def OwR (R : Nat → Prop) (N : Nat) (w : World) (v : Value) (bs : List Int) : Prop := OwnB w v bs ∧ (∀ g, v.ownBlock = some g → R g) ∧ bs.length ≤ N
def WrR (R : Nat → Prop) (N : Nat) (w : World) (b : Nat) (bs : List Int) : Prop := ∃ v, Wr w b v bs ∧ R b ∧ (∀ g, v.ownBlock = some g → R g) ∧ bs.length ≤ N
def RrR (T : TypeId) (R : Nat → Prop) (w : World) (r : Nat) (s : RSt) : Prop := ∃ v, Rr T w r v s ∧ R r ∧ (0 < (s.getD []).length → ∀ g, v.ownBlock = some g → R g)

section
variable {R R' S : Nat → Prop} {N M : Nat} {w w' : World} {v : Value} {bs : List Int} {b r : Nat} {s : RSt} {T : TypeId}
theorem RdR.mod (h : RdR R N w v bs) (hm : Mod S w w') (hs : ∀ k, R k → S k → False) : RdR R N w' v bs := ⟨h.1.mod hm (fun h0 g hg hS => hs g (h.2.1 h0 g hg) hS), h.2⟩
theorem RdR.widen (h : RdR R N w v bs) (hs : ∀ k, R k → R' k) (hM : N ≤ M) : RdR R' M w v bs := ⟨h.1, fun h0 g hg => hs g (h.2.1 h0 g hg), Nat.le_trans h.2.2 hM⟩
theorem OwR.mod (h : OwR R N w v bs) (hm : Mod S w w') (hs : ∀ k, R k → S k → False) : OwR R N w' v bs := ⟨OwnB.mod h.1 hm (fun g hg hS => hs g (h.2.1 g hg) hS), h.2⟩
theorem OwR.widen (h : OwR R N w v bs) (hs : ∀ k, R k → R' k) (hM : N ≤ M) : OwR R' M w v bs := ⟨h.1, fun g hg => hs g (h.2.1 g hg), Nat.le_trans h.2.2 hM⟩
theorem OwR.rd (h : OwR R N w v bs) : RdR R N w v bs := ⟨h.1.rd, fun _ => h.2.1, h.2.2⟩
theorem WrR.mod (h : WrR R N w b bs) (hm : Mod S w w') (hs : ∀ k, R k → S k → False) : WrR R N w' b bs := by
  obtain ⟨v, h1, h2, h3, h4⟩ := h
  exact ⟨v, h1.mod hm (hs b h2) (fun g hg => hs g (h3 g hg)), h2, h3, h4⟩
theorem WrR.widen (h : WrR R N w b bs) (hs : ∀ k, R k → R' k) (hM : N ≤ M) : WrR R' M w b bs := by
  obtain ⟨v, h1, h2, h3, h4⟩ := h
  exact ⟨v, h1, hs b h2, fun g hg => hs g (h3 g hg), Nat.le_trans h4 hM⟩
theorem RrR.mod (h : RrR T R w r s) (hm : Mod S w w') (hs : ∀ k, R k → S k → False) : RrR T R w' r s := by
  obtain ⟨v, h1, h2, h3⟩ := h
  exact ⟨v, h1.mod hm (hs r h2) (fun h0 g hg => hs g (h3 h0 g hg)), h2, h3⟩
theorem RrR.widen (h : RrR T R w r s) (hs : ∀ k, R k → R' k) : RrR T R' w r s := by
  obtain ⟨v, h1, h2, h3⟩ := h
  exact ⟨v, h1, hs r h2, fun h0 g hg => hs g (h3 h0 g hg)⟩
theorem RdR.len {ao : Option Addr} {n cap : Nat} (h : RdR R N w (.slice ao n cap) bs) : n = bs.length := h.1.len.1
theorem RdR.shape (h : RdR R N w v bs) : ∃ ao cap, v = .slice ao bs.length cap := by obtain ⟨ao, cap, e, _⟩ := h.1.shape; exact ⟨ao, cap, e⟩
theorem OwR.shape (h : OwR R N w v bs) : ∃ ao cap, v = .slice ao bs.length cap := h.rd.shape
end

/-- what is new in w' -/
abbrev New (w w' : World) (k : Nat) : Prop := w.heap.size ≤ k ∧ k < w'.heap.size

theorem OwR_of {w w' : World} {v : Value} {bs : List Int} (N : Nat) (h : OwnB w' v bs) (hf : Fresh w v) (hN : bs.length ≤ N) : OwR (New w w') N w' v bs := ⟨h, fun g hg => ⟨hf g hg, Own.lt h hg⟩, hN⟩

theorem Cut_R {R : Nat → Prop} {N : Nat} {v : Value} {bs : List Int} (n : Nat) {w : World} (hr : RdR R N w v bs) (hn : n ≤ 1000000) :
    Calls Tryz.prog 10 #[v, .int .i64 n] w fun e w' => ∃ v', e = .returned v' ∧ OwR (New w w') n w' v' (bs.take n) ∧ Mod (fun _ => False) w w' := by
  obtain ⟨ao, cap, rfl⟩ := hr.shape
  exact (Cut_any ao _ cap bs n w hr.1 hn).mono fun e w' ⟨ao', cap', he, ho, hf, hm⟩ => ⟨_, he, OwR_of n ho hf (by simp; omega), hm⟩
theorem Same_R {R R' : Nat → Prop} {N N' : Nat} {va vb : Value} {a b : List Int} {w : World} (ha : RdR R N w va a) (hb : RdR R' N' w vb b) :
    Calls Tryz.prog 19 #[va, vb] w fun e w' => e = .returned (.bool (decide (a = b))) ∧ Mod (fun _ => False) w w' :=
  (Same_any va vb a b w ha.1 hb.1).mono fun _ _ ⟨he, hd⟩ => ⟨he, mod_of_drewN hd _⟩
theorem NewWriter_R (w : World) :
    Calls Tryz.prog 68 #[] w fun e w' => ∃ b, e = .returned (.pointer (some ⟨b, 0, none⟩)) ∧ WrR (New w w') 0 w' b [] ∧ Mod (fun _ => False) w w' :=
  (NewWriter_any w).mono fun _ _ ⟨he, hW, hm⟩ => ⟨_, he, ⟨_, hW, ⟨Nat.le_refl _, hW.1.lt⟩, (fun g hg => by cases hg), Nat.le_refl _⟩, hm⟩
theorem WrTo_R {R : Nat → Prop} {w w' : World} {b : Nat} {v : Value} {bs : List Int} (N : Nat) (hb : R b) (hv : ∀ g, v.ownBlock = some g → R g) (h : WrTo w b v bs w') (hN : bs.length ≤ N) :
    WrR (fun k => R k ∨ New w w' k) N w' b bs ∧ Mod R w w' := by
  obtain ⟨v', h1, h2, h3⟩ := h
  refine ⟨⟨v', h1, .inl hb, fun g hg => ?_, hN⟩, h2.mono (fun k _ hk => ?_)⟩
  · rcases h3 with h3 | ⟨k, h3, hk⟩
    · exact .inl (hv g (h3 ▸ hg))
    · rw [h3] at hg
      obtain rfl : k = g := by simpa using hg
      exact .inr ⟨hk, Own.lt h1.2 h3⟩
  · rcases hk with rfl | hk
    · exact hb
    · exact hv k hk.symm
theorem WBytes_R {R : Nat → Prop} {N b : Nat} {bs : List Int} {w : World} (hW : WrR R N w b bs) (hl : N ≤ 1000000) :
    Calls Tryz.prog 71 #[.pointer (some ⟨b, 0, none⟩)] w fun e w' => ∃ v', e = .returned v' ∧ OwR (New w w') N w' v' bs ∧ Mod (fun _ => False) w w' := by
  obtain ⟨v, h1, h2, h3, h4⟩ := hW
  exact (WBytes_any b v bs w h1 (by unfold Room; omega)).mono fun e w' ⟨ao', cap', he, ho, hf, hm⟩ => ⟨_, he, OwR_of N ho hf h4, hm⟩
theorem NewReader_R {R : Nat → Prop} {N : Nat} {v : Value} {bs : List Int} {w : World} (hr : RdR R N w v bs) (hl : N ≤ 1000000) :
    Calls Tryz.prog 41 #[v] w fun e w' => ∃ r, e = .returned (.pointer (some ⟨r, 0, none⟩)) ∧ RrR 133 (New w w') w' r (some bs) ∧ Mod (fun _ => False) w w' :=
  (NewReader_any v bs w hr.1 (by have := hr.2.2; unfold Room; omega)).mono fun _ w' ⟨r, v', he, h1, h2, h3, hm⟩ => ⟨r, he, ⟨v', h2, ⟨h1, h2.1.lt⟩, fun h0 g hg => ⟨h3 h0 g hg, h2.2.1.block_lt h0 g hg⟩⟩, hm⟩
theorem RrTo_R {T : TypeId} {R : Nat → Prop} {w w' : World} {r : Nat} {v : Value} {s s' : RSt} (hr : R r) (hv : 0 < (s.getD []).length → ∀ g, v.ownBlock = some g → R g) (hl : (s'.getD []).length ≤ (s.getD []).length) (h : RrTo T w r v s' w') :
    RrR T R w' r s' ∧ Mod R w w' := by
  obtain ⟨v', h1, h2, h3⟩ := h
  exact ⟨⟨v', h1, hr, fun h0 g hg => hv (by omega) g (by rw [← h3 h0]; exact hg)⟩, h2.mono (fun k _ hk => by subst hk; exact hr)⟩
theorem RInt_R {R : Nat → Prop} {r : Nat} {most : Int} {s : RSt} {w : World} (hR : RrR 133 R w r s) (hm : -9223372036854775808 ≤ most ∧ most ≤ 9223372036854775807) :
    Calls Tryz.prog 43 #[.pointer (some ⟨r, 0, none⟩), .int .i64 most] w fun e w' => e = .returned (.int .i64 ((rInt most s).1 : Nat)) ∧ RrR 133 R w' r (rInt most s).2 ∧ Mod R w w' := by
  obtain ⟨v, h1, h2, h3⟩ := hR
  exact (RInt_any r most v s w h1 hm).mono fun _ _ ⟨he, h⟩ => ⟨he, RrTo_R h2 h3 (rInt_len most s) h⟩
theorem OK_R {R : Nat → Prop} {r : Nat} {s : RSt} {w : World} (hR : RrR 133 R w r s) :
    Calls Tryz.prog 44 #[.pointer (some ⟨r, 0, none⟩)] w fun e w' => e = .returned (.bool s.isSome) ∧ w = w' := by
  obtain ⟨v, h1, h2, h3⟩ := hR
  exact OK_any r v s w h1
theorem hv_guard2 (op : BinOp) (x y : Operand) (a b : List Int) (w : World) : (eqGuard op 25 x y (hv a) (hv b)).run Tryz.prog w = .ok () w :=
  run_eqGuard_agg (P := Tryz.prog) w op 25 x y _ _ (by kernel_rfl)
theorem hv_eql {a b : List Int} (ha : a.length = 32) (hb : b.length = 32) (w : World) : (binOp .eql 25 (hv a) (hv b)).run Tryz.prog w = .ok (.bool (decide (a = b))) w :=
  run_eql_ints w 25 5 32 Tryz.underlying25 Tryz.underlying5 (by kernel_rfl) a b ha hb
end Go.Proofs.YtpnikilkcifncaaGreat

/- From a reading of the arguments to what the walks take: numbers, slices of bytes. -/
namespace Go.Proofs.YtpnikilkcifncaaGreat
open Go Go.RowKit Go.Gv Go.ChangeShapes Go.WideShapes Go.ChangeAt

theorem u64_nat {a : Int} (h : (Lit.int .u64 a).wf = true) : ∃ n : Nat, a = n ∧ n < U64 := by
 have := bounds_u64 h
 exact ⟨a.toNat, by omega, by unfold U64; omega⟩
theorem i64_bd {a : Int} (h : (Lit.int .i64 a).wf = true) : -9223372036854775808 ≤ a ∧ a ≤ 9223372036854775807 := bounds_i64 h

end Go.Proofs.YtpnikilkcifncaaGreat

/- From readings of arguments to typed lists: slices of structs, arrays of bytes. -/
namespace Go.Proofs.YtpnikilkcifncaaGreat
open Go Go.RowKit Go.Gv Go.ChangeShapes Go.WideShapes Go.ChangeAt Go.Deep

/-- the slice v is the list l, each element s cells -/
def RdE {α : Type} (s : Nat) (cells : α → List Value) (R : Nat → Prop) (w : World) (v : Value) (l : List α) : Prop :=
  (l = [] ∧ ∃ ao cap, v = .slice ao 0 cap) ∨
  ∃ g o cap, R g ∧ v = .slice (some ⟨g, o, none⟩) l.length cap ∧ 0 < l.length ∧ l.length ≤ cap ∧ cap ≤ maxLen ∧ ∀ i (h : i < l.length), ∀ j u, (cells l[i])[j]? = some u → w.cell? ⟨g, o + i * s + j, none⟩ = some u

theorem RdE.mod {α : Type} {s : Nat} {cells : α → List Value} {R S : Nat → Prop} {w w' : World} {v : Value} {l : List α} (h : RdE s cells R w v l) (hm : Mod S w w') (hs : ∀ k, R k → S k → False) : RdE s cells R w' v l := by
  rcases h with h | ⟨g, o, cap, h1, h2, h3, h4, h5, h6⟩
  · exact .inl h
  · exact .inr ⟨g, o, cap, h1, h2, h3, h4, h5, fun i hi j u hu => hm.cell (h6 i hi j u hu) (hs g h1)⟩

section
variable {H : Type} {enc : TypeId × Value → H} {W : World}

theorem trod_arr {t e : TypeId} {n fuel : Nat} {cs : List Value} {x : DataW H × List MemPlace} (ht : Tryz.prog.underlying t = some (.array n e)) (he : Tryz.prog.underlying e = some (.int .u8)) (hce : Tryz.prog.cellsOf e = 1) (hcs : Tryz.prog.cellsOf t = n)
    (h : DataW.trod enc Tryz.prog W 0 (fun _ => true) true fuel t cs = some x) : ∃ hs : List Int, cs = hs.map bv ∧ Bytes hs ∧ hs.length = n := by
  obtain ⟨xs, m, _, rfl, hl, hn, hx⟩ := DataW.trod_array ht h
  rw [hcs] at hl
  have key : ∀ i (hi : i < n), ∃ q : Int, cs[i]'(by omega) = bv q ∧ 0 ≤ q ∧ q < 256 := by
    intro i hi
    have := hx i hi
    rw [hce, Nat.mul_one, List.getElem?_eq_getElem (by omega)] at this
    have e1 : (cs.drop i).take 1 = [cs[i]'(by omega)] := by
      rw [List.drop_eq_getElem_cons (by omega : i < cs.length)]; rfl
    rw [e1] at this
    obtain ⟨q, e2, _, hw⟩ := DataW.trod_int he this
    simp at e2
    have hb := bounds_u8 hw
    exact ⟨q, e2, by omega, by omega⟩
  refine ⟨cs.map (intOf ·), ?_, ?_, by simp [hl]⟩
  · apply List.ext_getElem
    · simp
    · intro i h1 h2
      obtain ⟨q, hq, _⟩ := key i (by omega)
      simp [hq, intOf]
  · intro y hy
    obtain ⟨u, hu, rfl⟩ := List.mem_map.1 hy
    obtain ⟨i, hi, rfl⟩ := List.getElem_of_mem hu
    obtain ⟨q, hq, h0, h1⟩ := key i (by omega)
    rw [hq]
    exact ⟨h0, h1⟩

theorem trod_bytes {fuel : Nat} {v : Value} {x : DataW H × List MemPlace} (h : DataW.trod enc Tryz.prog W 0 (fun _ => true) true fuel 52 [v] = some x) : ∃ bs, RdR (fun k => k < W.heap.size) bs.length W v bs := by
  rcases open_ints Tryz.underlying52 Tryz.underlying5 (by kernel_rfl) h with ⟨hcs, _⟩ | ⟨x, len0, cap0, zs, hcs, _, hl, hm, hz, hx, hcell, hwz⟩
  · simp at hcs; subst hcs
    exact ⟨[], RdB.nil _, fun h => by simp at h, Nat.le_refl _⟩
  · simp at hcs; subst hcs
    simp only [if_true] at hz
    have hbl : (zs.take len0).length = len0 := by simp; omega
    refine ⟨zs.take len0, ⟨?_, ?_⟩, ?_, Nat.le_refl _⟩
    · intro y hy
      have := bounds_u8 (hwz y (List.mem_of_mem_take hy))
      omega
    · rw [hbl]
      refine ⟨by simp; omega, some x, cap0, rfl, hl, hm, (fun h => by cases h), ?_⟩
      intro y hy j u hu
      cases hy
      simp only [List.getElem?_map, Option.map_eq_some_iff] at hu
      obtain ⟨q, hq, rfl⟩ := hu
      have hj : j < len0 := by have := (List.getElem?_eq_some_iff.1 hq).1; omega
      rw [List.getElem?_take, if_pos hj] at hq
      have h0 := hcell 0 (by omega)
      refine ⟨by simpa [Addr.add] using World.cell?_spot h0, ?_⟩
      rw [hcell j (by omega)]
      simp [List.getD, hq]
    · intro h0 g hg
      rw [hbl] at h0
      simp [Value.ownBlock] at hg
      subst hg
      have h0 := World.block_lt_of_cell? _ _ (hcell 0 (by omega))
      simpa [Addr.add] using h0

/-- a slice whose elements are read one by one -/
theorem trod_list {α : Type} [Inhabited α] {t e : TypeId} {s fuel : Nat} (cells : α → List Value) (Ok : α → Prop) {v : Value} {x : DataW H × List MemPlace} (ht : Tryz.prog.underlying t = some (.slice e)) (hce : Tryz.prog.cellsOf e = s) (hs : 0 < s) (hlen : ∀ a, (cells a).length = s)
    (he : ∀ fuel cs x, DataW.trod enc Tryz.prog W 0 (fun _ => true) true fuel e cs = some x → ∃ a, cs = cells a ∧ Ok a)
    (h : DataW.trod enc Tryz.prog W 0 (fun _ => true) true fuel t [v] = some x) : ∃ l : List α, RdE s cells (fun k => k < W.heap.size) W v l ∧ ∀ a ∈ l, Ok a := by
  rcases open_slice ht h with ⟨hcs, _⟩ | ⟨a, len, cap, m, n, D, Pl, hcs, _, hl, hm, hmm, _, hel⟩
  · simp at hcs; subst hcs
    exact ⟨[], .inl ⟨rfl, _, _, rfl⟩, fun a ha => by cases ha⟩
  · simp at hcs; subst hcs
    simp only [if_true] at hmm
    subst hmm
    rcases Nat.eq_zero_or_pos len with rfl | hpos
    · exact ⟨[], .inl ⟨rfl, _, _, rfl⟩, fun a ha => by cases ha⟩
    have key : ∀ i, i < len → ∃ b : α, W.cells? 0 (a.add (i * s)) s = some (cells b) ∧ Ok b := by
      intro i hi
      obtain ⟨cs', h1, h2⟩ := hel i (by omega)
      rw [hce] at h1
      obtain ⟨b, rfl, hb⟩ := he _ _ _ h2
      exact ⟨b, h1, hb⟩
    obtain ⟨f, hf⟩ := choose_lt key
    have cell : ∀ i, i < len → ∀ j u, (cells (f i))[j]? = some u → W.cell? ((a.add (i * s)).add j) = some u := by
      intro i hi j u hu
      obtain ⟨_, hl2, hc2⟩ := World.cells?_some (hf i hi).1
      have hj := (List.getElem?_eq_some_iff.1 hu).1
      rw [hc2 j (by omega), hu]
    have h00 : 0 < (cells (f 0)).length := by rw [hlen]; exact hs
    have c00 := cell 0 hpos 0 _ (List.getElem?_eq_getElem h00)
    have ea : (a.add (0 * s)).add 0 = a := by simp [Addr.add]
    rw [ea] at c00
    have hspot := World.cell?_spot c00
    have hblk := World.block_lt_of_cell? _ _ c00
    obtain ⟨g, o, sp⟩ := a
    simp only at hspot hblk
    subst hspot
    refine ⟨(List.range len).map f, .inr ⟨g, o, m, hblk, by simp, by simpa using hpos, by simpa using hl, hm, ?_⟩, ?_⟩
    · intro i hi j u hu
      simp only [List.length_map, List.length_range] at hi
      have := cell i hi j u (by simpa using hu)
      rw [add_mk, add_mk] at this
      exact this
    · intro b hb
      obtain ⟨i, hi, rfl⟩ := List.mem_map.1 hb
      exact (hf i (by simpa using hi)).2
end
end Go.Proofs.YtpnikilkcifncaaGreat

/- Elements of slices: their addresses, appending one that has many cells. No program here. -/
namespace Go.Gv
open Go Go.RowKit

section
variable {P : Program} {o : Oper} {a : Act} {w w' : World}
theorem ex_idxS {T e : TypeId} {x y : Operand} {g off n cap i s : Nat} {k : IntKind} (ho : o.op = .indexAddr T x y) (hu : P.underlying T = some (.slice e)) (hs : (P.info? e).map (·.size) = some s) (hx : a.eval x = .slice (some ⟨g, off, none⟩) n cap) (hy : a.eval y = .int k (i : Int)) (hi : i < n) :
    (execOp a.eval o).run P w = .ok (.value (.pointer (some ⟨g, off + i * s, none⟩))) w := by
  have hsz : (sizeOf e).run P w = .ok s w := by
    cases hq : P.info? e with
    | none => rw [hq] at hs; cases hs
    | some i => rw [hq] at hs; simp [sizeOf, typeInfo, hq]; exact Option.some.inj hs
  unfold execOp
  simp [ho, hx, hy, Instr.indexAt, asIntOf, run_underlying hu, hsz, hi, add_mk]
theorem ex_buildS1 {T e : TypeId} {y : Operand} {cs : List Value} {s : Nat} {zc : List Value} (ho : o.op = .buildSlice T 1 #[(0, y)]) (hu : P.underlying T = some (.slice e)) (hie : (P.info? e).map (fun i => (i.size, i.zero)) = some (s, some (.agg zc.toArray))) (hz : zc.length = s) (h0 : 0 < s) (hb : s ≤ 1000) (hy : a.eval y = .agg cs.toArray) (hl : cs.length = s) :
    (execOp a.eval o).run P w = .ok (.value (.slice (some ⟨w.heap.size, 0, none⟩) 1 1)) (w.alloc (.cells cs.toArray e)) := by
  cases hq : P.info? e with
  | none => rw [hq] at hie; cases hie
  | some ie =>
    rw [hq] at hie
    have e0 := Option.some.inj hie
    have e1 : ie.size = s := congrArg Prod.fst e0
    have e2 : ie.zero = some (.agg zc.toArray) := congrArg Prod.snd e0
    have hf : Instr.fill (fun i => some (i * ie.size, ie.size)) ((Array.range (1 * ie.size)).map ((Value.agg zc.toArray).cells[· % (Value.agg zc.toArray).cells.size]!)) (#[((0 : Nat), a.eval y)] : Array (Nat × Value)).toList = some cs.toArray := by
      rw [hy, e1]
      unfold Instr.fill
      simp only
      have hsz : ((Array.range (1 * s)).map ((Value.agg zc.toArray).cells[· % (Value.agg zc.toArray).cells.size]!)).size = s := by simp
      rw [if_neg (by simp [Value.cells, hl])]
      unfold Instr.fill
      congr 1
      have := foldl_lay (0 * s) cs ((Array.range (1 * s)).map ((Value.agg zc.toArray).cells[· % (Value.agg zc.toArray).cells.size]!)).toList (by simp [hl])
      simp only [Value.cells] at this ⊢
      simp only [Array.toArray_toList] at this
      rw [← Array.toList_zipIdx] at this
      simp only [Array.foldl_toList] at this
      rw [this]
      simp [hl]
    have hr := run_buildSlice (P := P) w T e 1 (#[((0 : Nat), a.eval y)] : Array (Nat × Value)) cs.toArray ie (.agg zc.toArray) hu hq e2 (by rw [e1]; omega) (by rw [e1]; omega) hf
    unfold execOp
    simp only [ho, Sem.run_bind, List.map_toArray, List.map_cons, List.map_nil, hr, Result.andThen_ok, Sem.run_pure]
theorem ex_append {t : TypeId} {x y : Operand} {vx vy v : Value} (ho : o.op = .call { callee := .builtin .append, args := #[x, y], argTypes := #[t, t] }) (hx : a.eval x = vx) (hy : a.eval y = vy) (hr : (Builtin.append_ #[t, t] o.type #[vx, vy]).run P w = .ok v w') : (execOp a.eval o).run P w = .ok (.value v) w' := by
  unfold execOp
  simp only [ho, resolve, invoke, builtin, Sem.run_bind, Sem.run_pure, Result.andThen_ok, List.map_toArray, List.map_cons, List.map_nil, hx, hy, hr]
end
end Go.Gv

/- Arithmetic of single operations; elements of arrays. No program here. -/
namespace Go.Gv
open Go Go.RowKit

section
variable {P : Program} {o : Oper} {a : Act} {w w' : World} {t : TypeId} {k : IntKind}
end
end Go.Gv

/- Single operations for wp_region_Q: calls of function values, parts of results, slices' rows, appends of things. No program here. -/
namespace Go.Gv
open Go Go.RowKit

section
variable {P : Program} {ops : Array Oper} {Q : Exit → Act → World → Prop} {i : Nat} {o : Oper} {a : Act} {w : World} {KQ : Value → World → Prop}
theorem ex_callV {x : Operand} {F : FuncId} {xs : Array Operand} {ts : Array TypeId} (ho : o.op = .call { callee := .value x, args := xs, argTypes := ts }) (hx : a.eval x = .func (.func F) #[] #[]) {fn : Func} (hf : P.funcs[F]? = some fn) (hn : (fn.name == "runtime.NumGoroutine") = false) (hb : fn.body.isNone = false) :
    (execOp a.eval o).run P w = .ok (.enter F (xs.map a.eval)) w := by
  have hn' : ¬ fn.name = "runtime.NumGoroutine" := by simpa using hn
  have hb' : ¬ fn.body = none := by intro e; rw [e] at hb; cases hb
  unfold execOp
  simp [ho, resolve, invoke, hx, Deferred.ofValue, callFunc, hf, hn', hb']
theorem ex_extract {x : Operand} {k : Nat} {vs : Array Value} {v : Value} (ho : o.op = .extract x k) (hx : a.eval x = .tuple vs) (hv : vs[k]? = some v) : (execOp a.eval o).run P w = .ok (.value v) w := by
  unfold execOp
  simp [ho, hx, Instr.extract, hv]
theorem ex_binE {op : BinOp} {t u : TypeId} {x y : Operand} {vx vy v v' : Value} (ho : o.op = .binOp op t x y u) (hx : a.eval x = vx) (hy : a.eval y = vy) (hg : (eqGuard op t x y vx vy).run P w = .ok () w) (hr : (binOp op t vx vy).run P w = .ok v w) (he : v = v') : (execOp a.eval o).run P w = .ok (.value v') w := by
  subst he; exact ex_bin ho hx hy hg hr
theorem ex_pickE {c x y : Operand} {b : Bool} {vx vy v : Value} (ho : o.op = .pick c x y) (hc : a.eval c = .bool b) (hx : a.eval x = vx) (hy : a.eval y = vy) (he : (if b then vx else vy) = v) : (execOp a.eval o).run P w = .ok (.value v) w := by
  subst he; exact ex_pick ho hc hx hy
theorem ex_min {x y : Operand} {ts : Array TypeId} {k k' : IntKind} {m n r : Int} (ho : o.op = .call { callee := .builtin .min, args := #[x, y], argTypes := ts }) (hx : a.eval x = .int k m) (hy : a.eval y = .int k' n) (he : (if n < m then n else m) = r) : (execOp a.eval o).run P w = .ok (.value (.int k r)) w := by
  subst he
  unfold execOp
  simp [ho, resolve, invoke, builtin, hx, hy, run_min_int2, Result.andThen]
theorem add_zero (a : Addr) : a.add 0 = a := by
  unfold Addr.add
  split <;> simp_all
theorem ex_sliceTo {T e : TypeId} {x y : Operand} {ao : Option Addr} {n cap i : Nat} {s : Nat} {k : IntKind} (ho : o.op = .slice T x none (some y) none) (hu : P.underlying T = some (.slice e)) (hs : (P.info? e).map (·.size) = some s) (hx : a.eval x = .slice ao n cap) (hy : a.eval y = .int k (i : Int)) (hi : i ≤ cap) :
    (execOp a.eval o).run P w = .ok (.value (.slice ao i cap)) w := by
  have hsz : (sizeOf e).run P w = .ok s w := by
    cases hq : P.info? e with
    | none => rw [hq] at hs; cases hs
    | some i => rw [hq] at hs; simp [sizeOf, typeInfo, hq]; exact Option.some.inj hs
  have hm : (if cap = 0 then ao else ao.map (·.add (0 * s))) = ao := by
    split
    · rfl
    · cases ao with
      | none => rfl
      | some x => simp [add_zero]
  have hm2 : ao.map (fun x => x.add 0) = ao := by cases ao with | none => rfl | some x => simp [add_zero]
  unfold execOp
  simp [ho, hx, hy, Instr.sliceAt, Instr.slice, Instr.sliceBounds, Instr.sliceBound, asIntOf, run_underlying hu, hsz, hi]
  intro h0
  exact hm2
/-- one of the chain appends things -/
theorem qc_appS {α : Type} {A : Rep α} {e t : TypeId} {R E R2 : Nat → Prop} {v xv : Value} {l new : List α} {s x : Operand} (ho : ops[i]? = some o) (hw : Region.wanted o (yielded ops a.tmps) = true) (hop : o.op = .call { callee := .builtin .append, args := #[s, x], argTypes := #[t, t] }) (z : Value) (bytes : Nat)
    (ht : P.underlying t = some (.slice e)) (hinfo : (P.info? e).map (fun i => (i.zero, i.size, i.bytes)) = some (some z, A.sz, bytes)) (hzs : z.cells.size = A.sz) (hzE : ∀ u ∈ z.cells.toList, u.oneCell' = true)
    (hs : a.eval s = v) (hx : a.eval x = xv) (hown : OwS A e R E w v l) (hrd : RdS A R2 w xv new) (hd : ∀ k, R2 k → R k → False) (hbytes : (l.length + new.length) * bytes ≤ 140737488355328) (h63 : l.length + new.length ≤ maxLen)
    (h : ∀ ao cap w', OwS A e (fun k => R k ∨ (w.heap.size ≤ k ∧ k < w'.heap.size)) (fun k => E k ∨ R2 k) w' (.slice ao (l.length + new.length) cap) (l ++ new) → Mod R w w' → KQ (.slice ao (l.length + new.length) cap) w') : wpOp P ops Q i (fun a' w' => ∃ v, a' = a.put o.dst v ∧ KQ v w') a w := by
  obtain ⟨ao, cap, w', hr, h1, h2⟩ := run_appS (P := P) w t o.type e z bytes ht hinfo hzs hzE hown hrd (fun k hk he => by obtain ⟨_, _, _, _, h5⟩ := hown; exact hd k hk (h5 k he)) hbytes h63
  exact qc_run ho hw (ex_append hop hs hx hr) (h ao cap w' h1 h2)
/-- one of the chain makes a row of one thing -/
theorem qc_buildS {e t : TypeId} {y : Operand} {cs zc : List Value} {sz : Nat} (ho : ops[i]? = some o) (hw : Region.wanted o (yielded ops a.tmps) = true) (hop : o.op = .buildSlice t 1 #[(0, y)]) (hu : P.underlying t = some (.slice e)) (hie : (P.info? e).map (fun i => (i.size, i.zero)) = some (sz, some (.agg zc.toArray))) (hz : zc.length = sz) (h0 : 0 < sz) (hb : sz ≤ 1000) (hy : a.eval y = .agg cs.toArray) (hl : cs.length = sz)
    (h : ∀ w', Cs w' w.heap.size cs.toArray e → Mod (fun _ => False) w w' → KQ (.slice (some ⟨w.heap.size, 0, none⟩) 1 1) w') : wpOp P ops Q i (fun a' w' => ∃ v, a' = a.put o.dst v ∧ KQ v w') a w :=
  qc_run ho hw (ex_buildS1 hop hu hie hz h0 hb hy hl) (h _ (Cs.new _ _ _) ((Mod.refl _ _).alloc _))
end
end Go.Gv

/- Short forms for printed walks: facts carried over a whole chain at once, single operations, regions without new variables. No program here. -/
namespace Go.Gv
open Go Go.RowKit

theorem hid {p : Prop} (h : p) : Hid p := h
/-- a chain's steps, told at once: S: what of old they may turn -/
theorem Mod.new {S : Nat → Prop} {w a : World} (h : Mod (fun j => w.heap.size ≤ j) w a) : Mod S w a := h.mono fun k hk h => absurd hk (Nat.not_lt.2 h)
theorem Mod.goR {S R : Nat → Prop} {w a c : World} (h : Mod S w a) (hr : Mod (fun j => w.heap.size ≤ j ∧ R j) a c) : Mod S w c :=
  h.trans hr fun k hk h => absurd hk (Nat.not_lt.2 h.1)
theorem Mod.goM {S T R : Nat → Prop} {w a b c : World} (h : Mod S w a) (hm : Mod T a b) (hr : Mod (fun j => w.heap.size ≤ j ∧ R j) b c) (hs : ∀ k, k < w.heap.size → T k → S k) : Mod S w c :=
  (h.trans hm hs).goR hr
theorem Mod.go {S R : Nat → Prop} {w a b c : World} (h : Mod S w a) (hm : Mod (fun _ => False) a b) (hr : Mod (fun j => w.heap.size ≤ j ∧ R j) b c) : Mod S w c :=
  h.goM hm hr fun _ _ h => h.elim
theorem Mod.old {w a : World} (h : Mod (fun j => (j < w.heap.size ∧ False) ∨ w.heap.size ≤ j) w a) : Mod (fun j => w.heap.size ≤ j) w a := h.mono fun _ _ h => h.elim (fun h => h.2.elim) (fun h => h)
theorem chv {v x : Value} (h : some v = some x) : x = v := (Option.some.inj h).symm
theorem list_eta {vs : List Value} {n : Nat} (hl : vs.length = n) : vs = (List.range n).map fun i => vs.getD i undef := by
  subst hl
  refine List.ext_getElem? fun i => ?_
  rcases Nat.lt_or_ge i vs.length with h | h
  · simp [List.getD_eq_getElem?_getD, h]
  · simp [h]
theorem getq {vs : List Value} {n p : Nat} (hl : vs.length = n) (h : p < n) : vs[p]? = some (vs.getD p undef) := by
  subst hl
  simp [List.getD_eq_getElem?_getD, h]
section
variable {β : Type} {f : Operand → β}
theorem args0 : (#[] : Array Operand).map f = #[] := by simp
theorem args1 {x1 : Operand} {a1 : β} (h1 : f x1 = a1) : #[x1].map f = #[a1] := by rw [← h1]; simp
theorem args2 {x1 x2 : Operand} {a1 a2 : β} (h1 : f x1 = a1) (h2 : f x2 = a2) : #[x1, x2].map f = #[a1, a2] := by rw [← h1, ← h2]; simp
theorem args3 {x1 x2 x3 : Operand} {a1 a2 a3 : β} (h1 : f x1 = a1) (h2 : f x2 = a2) (h3 : f x3 = a3) : #[x1, x2, x3].map f = #[a1, a2, a3] := by rw [← h1, ← h2, ← h3]; simp
end
section
variable {P : Program} {ops : Array Oper} {Q : Exit → Act → World → Prop} {a0 : Act} {w0 : World} {n : Nat} {ss : List Nat} {S0 : Nat → Prop} {SS : Nat → Nat → Prop} {l : List QPred} {c : List Nat} {al : List QRow} {i : Nat} {o : Oper}
/-- what is known where an operation beside the chain stands -/
structure StE (ops : Array Oper) (a0 : Act) (w0 : World) (n : Nat) (ss : List Nat) (S0 : Nat → Prop) (SS : Nat → Nat → Prop) (l : List QPred) (c : List Nat) (i : Nat) (o : Oper) (Z : Nat → Prop) (t : List Value) (a : Act) (w : World) : Prop where
  inZ : ∀ j, Z j → w0.heap.size ≤ j ∧ j < w.heap.size
  m : Mod (fun j => (j < w0.heap.size ∧ S0 j) ∨ w0.heap.size ≤ j) w0 w
  m0 : Mod (fun j => (j < w0.heap.size ∧ ∃ k, k < t.length ∧ SS k j) ∨ w0.heap.size ≤ j) w0 w
  out : ∀ t, t ∉ ss → a.eval (.tmp t) = a0.eval (.tmp t)
  sz : ∀ s, s < n → s < a.tmps.size
  on : ∀ e ∈ o.after, Region.binds .any e = true → ∀ s, (ops[e.on]?).bind (·.dst) = some s → (l.getD e.on qa) Z t (a.eval (.tmp s)) w
  ub : ∀ k q, c[k]? = some q → (clo ops ops.size (afterOf ops q)).contains i = true → t.length ≤ k
  pre : ∀ j s, (ops[j]?).bind (·.dst) = some s → (clo ops ops.size (afterOf ops j)).contains i = true → a.eval (.tmp s) = a0.eval (.tmp s)
theorem StE.v {Z : Nat → Prop} {t : List Value} {a : Act} {w : World} (E : StE ops a0 w0 n ss S0 SS l c i o Z t a w) {k : Nat} {v : Value} (h : a0.eval (.tmp k) = v) (hk : k ∉ ss := by decide) : a.eval (.tmp k) = v := (E.out k hk).trans h
theorem StE.e {Z : Nat → Prop} {t : List Value} {a : Act} {w : World} (E : StE ops a0 w0 n ss S0 SS l c i o Z t a w) (k : Nat) (g : Ground) {s : Nat} (h : (⟨k, g⟩ : Edge) ∈ o.after := by simp) (hb : Region.binds .any ⟨k, g⟩ = true := by rfl) (hs : (ops[k]?).bind (·.dst) = some s := by rfl) : (l.getD k qa) Z t (a.eval (.tmp s)) w := E.on ⟨k, g⟩ h hb s hs
theorem StE.d {Z : Nat → Prop} {t : List Value} {a : Act} {w : World} (E : StE ops a0 w0 n ss S0 SS l c i o Z t a w) (k : Nat) {s : Nat} (h : (⟨k, .data⟩ : Edge) ∈ o.after := by simp) (hs : (ops[k]?).bind (·.dst) = some s := by rfl) : (l.getD k qa) Z t (a.eval (.tmp s)) w := E.on ⟨k, .data⟩ h rfl s hs
/-- where one of the chain stands -/
structure ChE (ops : Array Oper) (a0 : Act) (n : Nat) (ss : List Nat) (B : Nat) (l : List QPred) (i : Nat) (o : Oper) (Y : Nat → Prop) (Z : Nat → Prop) (t : List Value) (a : Act) (w : World) : Prop where
  YZ : ∀ j, Y j → Z j
  inZ : ∀ j, Z j → B ≤ j ∧ j < w.heap.size
  out : ∀ t, t ∉ ss → a.eval (.tmp t) = a0.eval (.tmp t)
  sz : ∀ s, s < n → s < a.tmps.size
  on : ∀ e ∈ o.after, Region.binds .any e = true → ∀ s, (ops[e.on]?).bind (·.dst) = some s → (l.getD e.on qa) Z t (a.eval (.tmp s)) w
  pre : ∀ j s, (ops[j]?).bind (·.dst) = some s → (clo ops ops.size (afterOf ops j)).contains i = true → a.eval (.tmp s) = a0.eval (.tmp s)
theorem ChE.v {B : Nat} {Y Z : Nat → Prop} {t : List Value} {a : Act} {w : World} (E : ChE ops a0 n ss B l i o Y Z t a w) {k : Nat} {v : Value} (h : a0.eval (.tmp k) = v) (hk : k ∉ ss := by decide) : a.eval (.tmp k) = v := (E.out k hk).trans h
theorem ChE.e {B : Nat} {Y Z : Nat → Prop} {t : List Value} {a : Act} {w : World} (E : ChE ops a0 n ss B l i o Y Z t a w) (k : Nat) (g : Ground) {s : Nat} (h : (⟨k, g⟩ : Edge) ∈ o.after := by simp) (hb : Region.binds .any ⟨k, g⟩ = true := by rfl) (hs : (ops[k]?).bind (·.dst) = some s := by rfl) : (l.getD k qa) Z t (a.eval (.tmp s)) w := E.on ⟨k, g⟩ h hb s hs
theorem ChE.d {B : Nat} {Y Z : Nat → Prop} {t : List Value} {a : Act} {w : World} (E : ChE ops a0 n ss B l i o Y Z t a w) (k : Nat) {s : Nat} (h : (⟨k, .data⟩ : Edge) ∈ o.after := by simp) (hs : (ops[k]?).bind (·.dst) = some s := by rfl) : (l.getD k qa) Z t (a.eval (.tmp s)) w := E.on ⟨k, .data⟩ h rfl s hs
theorem QChain.go {B : Nat} {Y : Nat → Prop} {k : Nat} {t : List Value} {w : World} (h : ∀ Z a, ChE ops a0 n ss B l i o Y Z t a w → wpOp P ops Q i (fun a' w' => ∃ v, a' = a.put o.dst v ∧ QPost P ops Q a0 n ss B S0 SS l al i c k Y t w v w') a w) (ho : ops[i]? = some o := by rfl) : QChain P ops Q a0 n ss B S0 SS l al (i :: c) k Y t w :=
  QChain.cons ho fun Z a h1 h2 h3 h4 h5 h6 => h Z a ⟨h1, h2, h3, h4, h5, h6⟩
theorem stq {v : Value} (hs : ∀ {Z : Nat → Prop} {t : List Value} {a : Act} {w : World}, StE ops a0 w0 n ss S0 SS l c i o Z t a w → (execOp a.eval o).run P w = .ok (.value v) w) (ho : ops[i]? = some o := by rfl) (hg : o.guard = none := by rfl) (hv : l.getD i qa = qi v := by rfl)
    (h : c.contains i = false := by rfl) (h0 : al.find? (fun r => r.a == i) = none := by rfl) (h1 : al.find? (fun r => r.s == i) = none := by rfl) : StepQ P ops Q a0 w0 n ss S0 SS l c al i o :=
  stepq_env h h0 h1 fun Z t a w k1 k2 k3 k4 k5 k6 k7 k8 => qe_run ho (wanted_none hg) (hs ⟨k1, k2, k3, k4, k5, k6, k7, k8⟩) QE.refl (by rw [hv]; rfl)
def gw (vs : List Value) (i : Nat) : Value := vs.getD i undef
theorem gw_eta {vs : List Value} {n : Nat} (hl : vs.length = n) : vs = (List.range n).map fun i => gw vs i := list_eta hl
theorem fvi {Z : Nat → Prop} {t : List Value} {w : World} {vs : List Value} {m : Nat} {x : Value} (hV : ∀ p v, vs[p]? = some v → (l.getD p qa) Z t v w) (hl : vs.length = m) (p : Nat) (hp : p < m := by decide) (he : l.getD p qa = qi x := by rfl) : gw vs p = x := by
  have h := hV p _ (getq hl hp)
  rw [he] at h
  exact h
theorem fvc {Z : Nat → Prop} {t : List Value} {w : World} {vs : List Value} {m k : Nat} {x : Value} (hV : ∀ p v, vs[p]? = some v → (l.getD p qa) Z t v w) (hl : vs.length = m) (p : Nat) (hp : p < m := by decide) (he : l.getD p qa = qv k := by rfl) (hx : t[k]? = some x := by rfl) : gw vs p = x := by
  have h := hV p _ (getq hl hp)
  rw [he] at h
  exact (Option.some.inj (hx.symm.trans h)).symm
/-- a region without new variables -/
theorem wp_region_Q1 {d : Bool} {id : Nat} (n : Nat) (hn : a0.tmps.size = n) (ss : List Nat)
    (S0 : Nat → Prop) (SS : Nat → Nat → Prop) (hSS : ∀ k j, SS k j → S0 j) (l : List QPred) (stable : AllQ w0.heap.size S0 l) (c : List Nat)
    (step : Each (StepQ P ops Q a0 w0 n ss S0 SS l c []) 0 ops.toList)
    (start : ∀ w1, Mod (fun j => w0.heap.size ≤ j) w0 w1 → QChain P ops Q a0 n ss w0.heap.size S0 SS l [] c 0 (fun _ => False) [] w1)
    (hm : P.follows .mixedOrders = true := by kernel_rfl) (hac : backward ops = true := by kernel_rfl) (hss : okSlots ops n ss = true := by kernel_rfl) (hnd : ss.Nodup := by decide) (hlk : linked ops c = true := by kernel_rfl) (hcn : c.Nodup := by decide) (hcs : (c.all fun i => decide (i < ops.size)) = true := by kernel_rfl) : (Code.region id ops d).wp P Q a0 w0 :=
  wp_region_Q n hn hm hac ss hss hnd S0 SS hSS l stable c hlk hcn hcs [] rfl (fun r hr => by cases hr) (fun r hr => by cases hr) (fun r hr => by cases hr) step start
/-- one that turns nothing of old -/
theorem wp_region_Q0 {d : Bool} {id : Nat} (n : Nat) (hn : a0.tmps.size = n) (ss : List Nat) (l : List QPred) (stable : AllQ w0.heap.size (fun _ => False) l) (c : List Nat)
    (step : Each (StepQ P ops Q a0 w0 n ss (fun _ => False) (fun _ _ => False) l c []) 0 ops.toList)
    (start : ∀ w1, Mod (fun j => w0.heap.size ≤ j) w0 w1 → QChain P ops Q a0 n ss w0.heap.size (fun _ => False) (fun _ _ => False) l [] c 0 (fun _ => False) [] w1)
    (hm : P.follows .mixedOrders = true := by kernel_rfl) (hac : backward ops = true := by kernel_rfl) (hss : okSlots ops n ss = true := by kernel_rfl) (hnd : ss.Nodup := by decide) (hlk : linked ops c = true := by kernel_rfl) (hcn : c.Nodup := by decide) (hcs : (c.all fun i => decide (i < ops.size)) = true := by kernel_rfl) : (Code.region id ops d).wp P Q a0 w0 :=
  wp_region_Q1 n hn ss _ _ (fun _ _ h => h) l stable c step start hm hac hss hnd hlk hcn hcs
theorem qc_callF {KQ : Value → World → Prop} {a : Act} {w : World} {F : FuncId} {xs : Array Operand} {ts : Array TypeId} {args : Array Value} {post : Ending → World → Prop} {fn : Func} (ho : ops[i]? = some o) (hw : Region.wanted o (yielded ops a.tmps) = true) (hop : o.op = .call { callee := .value (.func F), args := xs, argTypes := ts })
    (hf : P.funcs[F]? = some fn) (ha : xs.map a.eval = args) (hcl : Calls P F args w post) (hp : ∀ e w', post e w' → ∃ v, e = .returned v ∧ KQ v w') (hn : (fn.name == "runtime.NumGoroutine") = false := by kernel_rfl) (hb : fn.body.isNone = false := by kernel_rfl) : wpOp P ops Q i (fun a' w' => ∃ v, a' = a.put o.dst v ∧ KQ v w') a w :=
  qc_call ho hw (by rw [ex_callF hop hf hn hb, ha]) hcl hp
theorem qe_callF {B : Nat} {Z : Nat → Prop} {t : List Value} {a : Act} {w : World} {F : FuncId} {xs : Array Operand} {ts : Array TypeId} {args : Array Value} {post : Ending → World → Prop} {fn : Func} (ho : ops[i]? = some o) (hw : Region.wanted o (yielded ops a.tmps) = true) (hop : o.op = .call { callee := .value (.func F), args := xs, argTypes := ts })
    (hf : P.funcs[F]? = some fn) (ha : xs.map a.eval = args) (hcl : Calls P F args w post) (hp : ∀ e w', post e w' → ∃ v, e = .returned v ∧ QE B Z w w' ∧ (l.getD i qa) Z t v w') (hn : (fn.name == "runtime.NumGoroutine") = false := by kernel_rfl) (hb : fn.body.isNone = false := by kernel_rfl) : wpOp P ops Q i (QJ B l Z i o t a w) a w :=
  qe_call ho hw (by rw [ex_callF hop hf hn hb, ha]) hcl hp
end
end Go.Gv

/- Answers of the chain of which more is known than what they are: new variables that are written whole with them. No program here. -/
namespace Go.Gv
open Go Go.RowKit

end Go.Gv

/- A region that keeps its order, told operation by operation. No program here. -/
namespace Go.Gv
open Go Go.RowKit

theorem putAll_snoc : ∀ (ss : List Nat) (t : List Value) (a : Act) (s : Nat) (v : Value), ss[t.length]? = some s → (putAll a ss t).put (some s) v = putAll a ss (t ++ [v])
  | [], t, a, s, v, h => by simp at h
  | s :: ss, [], a, s', v, h => by
    simp only [List.length_nil, List.getElem?_cons_zero, Option.some.injEq] at h
    subst h
    cases ss <;> rfl
  | s :: ss, u :: t, a, s', v, h => by
    simp only [List.length_cons, List.getElem?_cons_succ] at h
    simp only [List.cons_append, putAll]
    exact putAll_snoc ss t _ s' v h
theorem putAll_take : ∀ (ss : List Nat) (t : List Value) (a : Act), putAll a ss t = putAll a (ss.take t.length) t
  | [], t, a => by simp
  | s :: ss, [], a => rfl
  | s :: ss, u :: t, a => by
    simp only [List.length_cons, List.take_succ_cons, putAll]
    exact putAll_take ss t _
theorem putAll_at : ∀ (ss : List Nat) (t : List Value) (a : Act) (p s : Nat) (v : Value), ss.Nodup → ss[p]? = some s → t[p]? = some v → s < a.tmps.size → (putAll a ss t).tmps[s]? = some v
  | [], t, a, p, s, v, hn, h, hv, hs => by simp at h
  | s :: ss, [], a, p, s', v, hn, h, hv, hs => by simp at hv
  | s :: ss, u :: t, a, 0, s', v, hn, h, hv, hs => by
    simp only [List.getElem?_cons_zero, Option.some.injEq] at h hv
    subst h hv
    simp only [putAll]
    rw [putAll_out ss t _ s (List.nodup_cons.1 hn).1, put_tmps]
    simp [hs]
  | s :: ss, u :: t, a, p + 1, s', v, hn, h, hv, hs => by
    simp only [List.getElem?_cons_succ] at h hv
    simp only [putAll]
    exact putAll_at ss t _ p s' v (List.nodup_cons.1 hn).2 h hv (by simpa [put_tmps] using hs)
/-- what is known of the frame where an operation stands: t: the answers of those ahead of it, the last one first -/
structure SqE (a0 : Act) (n : Nat) (ss : List Nat) (t : List Value) (a : Act) : Prop where
  out : ∀ s : Nat, s ∉ ss → a.eval (.tmp s) = a0.eval (.tmp s)
  sz : ∀ s : Nat, s < n → s < a.tmps.size
  on : ∀ (k p s : Nat) (v : Value), ss[k]? = some s → t[p]? = some v → p + k + 1 = t.length → s < n → a.eval (.tmp s) = v
  yet : ∀ (k s : Nat), t.length ≤ k → ss[k]? = some s → a.eval (.tmp s) = a0.eval (.tmp s)
section
variable {P : Program} {ops : Array Oper} {Q : Exit → Act → World → Prop} {a0 : Act} {n : Nat} {ss : List Nat} {c : List Nat} {i : Nat} {o : Oper} {t : List Value} {w w' : World} {a : Act}
theorem SqE.v (E : SqE a0 n ss t a) {k : Nat} {v : Value} (h : a0.eval (.tmp k) = v) (hk : k ∉ ss := by decide) : a.eval (.tmp k) = v := (E.out k hk).trans h
theorem SqE.y (E : SqE a0 n ss t a) (k : Nat) {s : Nat} {v : Value} (h : a0.eval (.tmp s) = v) (hs : ss[k]? = some s := by rfl) (hk : Nat.ble t.length k = true := by rfl) : a.eval (.tmp s) = v := (E.yet k s (Nat.le_of_ble_eq_true hk) hs).trans h
theorem SqE.d (E : SqE a0 n ss t a) (k p : Nat) {s : Nat} {v : Value} (hs : ss[k]? = some s := by rfl) (hv : t[p]? = some v := by rfl) (hp : p + k + 1 = t.length := by rfl) (hn : s < n := by decide) : a.eval (.tmp s) = v := E.on k p s v hs hv hp hn
theorem SqE.q (E : SqE a0 n ss t a) (k p : Nat) {s : Nat} {v x : Value} {b : Bool} (h : (b = true → v = x) ∧ (b = false → v = undef)) (hs : ss[k]? = some s := by rfl) (hv : t[p]? = some v := by rfl) (hp : p + k + 1 = t.length := by rfl) (hn : s < n := by decide) : (b = true → a.eval (.tmp s) = x) ∧ (b = false → a.eval (.tmp s) = undef) := by
  rw [E.on k p s v hs hv hp hn]
  exact h
def QSeq (P : Program) (ops : Array Oper) (Q : Exit → Act → World → Prop) (a0 : Act) (n : Nat) (ss : List Nat) : List Nat → List Value → World → Prop
  | [], t, w => Q .normal (putAll a0 ss t.reverse) w
  | i :: c, t, w => ∀ a, SqE a0 n ss t a → wpOp P ops Q i (fun a' w' => ∃ o v, ops[i]? = some o ∧ a' = a.put o.dst v ∧ QSeq P ops Q a0 n ss c (v :: t) w') a w
theorem QSeq.go (h : ∀ a, SqE a0 n ss t a → wpOp P ops Q i (fun a' w' => ∃ v, a' = a.put o.dst v ∧ QSeq P ops Q a0 n ss c (v :: t) w') a w) (ho : ops[i]? = some o := by rfl) : QSeq P ops Q a0 n ss (i :: c) t w :=
  fun a E => wpOp_mono (fun a' w' ⟨v, e, hq⟩ => ⟨o, v, ho, e, hq⟩) (h a E)
theorem QSeq.nil {t' : List Value} (e : t.reverse = t') (h : Q .normal (putAll a0 ss t') w) : QSeq P ops Q a0 n ss [] t w := by subst e; exact h
theorem QSeq.pure {v' : Value} (ho : ops[i]? = some o) (v : Value) (hs : ∀ {a}, SqE a0 n ss t a → (execOp a.eval o).run P w = .ok (.value v') w) (h : QSeq P ops Q a0 n ss c (v :: t) w) (hg : o.guard = none := by rfl) (hv : v' = v := by rfl) : QSeq P ops Q a0 n ss (i :: c) t w :=
  QSeq.go (fun a E => qc_run ho (wanted_none hg) (hv ▸ hs E) h) ho
theorem QSeq.pureG {v' : Value} (ho : ops[i]? = some o) (v : Value) (hw : ∀ {a}, SqE a0 n ss t a → Region.wanted o (yielded ops a.tmps) = true) (hs : ∀ {a}, SqE a0 n ss t a → (execOp a.eval o).run P w = .ok (.value v') w) (h : QSeq P ops Q a0 n ss c (v :: t) w) (hv : v' = v := by rfl) : QSeq P ops Q a0 n ss (i :: c) t w :=
  QSeq.go (fun a E => qc_run ho (hw E) (hv ▸ hs E) h) ho
theorem QSeq.skip (ho : ops[i]? = some o) (hw : ∀ {a}, SqE a0 n ss t a → Region.wanted o (yielded ops a.tmps) = false) (h : QSeq P ops Q a0 n ss c (undef :: t) w) : QSeq P ops Q a0 n ss (i :: c) t w := by
  refine QSeq.go (fun a E => ?_) ho
  unfold wpOp
  rw [ho]
  simp only [hw E]
  exact ⟨undef, rfl, h⟩
/-- one that a test may leave out -/
theorem QSeq.may {b : Bool} {x' : Value} (ho : ops[i]? = some o) (x : Value) (hw : ∀ {a}, SqE a0 n ss t a → Region.wanted o (yielded ops a.tmps) = b) (hs : ∀ {a}, SqE a0 n ss t a → b = true → (execOp a.eval o).run P w = .ok (.value x') w)
    (h : ∀ v, ((b = true → v = x) ∧ (b = false → v = undef)) → QSeq P ops Q a0 n ss c (v :: t) w) (hv : x' = x := by rfl) : QSeq P ops Q a0 n ss (i :: c) t w := by
  cases b with
  | false => exact QSeq.skip ho hw (h undef ⟨(fun e => by cases e), fun _ => rfl⟩)
  | true => exact QSeq.pureG ho x hw (fun E => hs E rfl) (h x ⟨fun _ => rfl, fun e => by cases e⟩) hv
/-- a call that turns nothing, which a test may leave out -/
theorem QSeq.mayCall {b : Bool} (ho : ops[i]? = some o) (x : Value) {F : FuncId} {xs : Array Operand} {ts : Array TypeId} {args : Array Value} {fn : Func} (hw : ∀ {a}, SqE a0 n ss t a → Region.wanted o (yielded ops a.tmps) = b) (hop : o.op = .call { callee := .value (.func F), args := xs, argTypes := ts }) (hf : P.funcs[F]? = some fn)
    (ha : ∀ {a}, SqE a0 n ss t a → b = true → xs.map a.eval = args) (hcl : b = true → Calls P F args w (fun e w' => e = .returned x ∧ Mod (fun _ => False) w w'))
    (h : ∀ v w', ((b = true → v = x) ∧ (b = false → v = undef)) → Mod (fun _ => False) w w' → QSeq P ops Q a0 n ss c (v :: t) w') (hn : (fn.name == "runtime.NumGoroutine") = false := by kernel_rfl) (hb : fn.body.isNone = false := by kernel_rfl) : QSeq P ops Q a0 n ss (i :: c) t w := by
  cases b with
  | false => exact QSeq.skip ho hw (h undef w ⟨(fun e => by cases e), fun _ => rfl⟩ (Mod.refl _ _))
  | true =>
    refine QSeq.go (fun a E => ?_) ho
    refine qc_callF ho (hw E) hop hf (ha E rfl) (hcl rfl) (fun e w' ⟨he, hm⟩ => ⟨x, he, h x w' ⟨fun _ => rfl, fun e => by cases e⟩ hm⟩) hn hb
theorem wp_region_S {id : Nat} (n : Nat) (hn : a0.tmps.size = n) (ss : List Nat) (c : List Nat) (h : QSeq P ops Q a0 n ss c [] w) (hc : c = List.range ops.size := by kernel_rfl) (hss : okSlots ops n ss = true := by kernel_rfl) (hnd : ss.Nodup := by decide) : (Code.region id ops false).wp P Q a0 w := by
  subst hc
  refine wp_region ?_
  have key : ∀ (m i : Nat) (t : List Value) (w : World), i + m = ops.size → t.length = i → QSeq P ops Q a0 n ss (List.range' i m) t w → wpOps P ops Q (List.range' i m) (putAll a0 ss t.reverse) w := by
    intro m
    induction m with
    | zero => intro i t w _ _ h; exact h
    | succ m ih =>
      intro i t w him hti h
      rw [List.range'_succ] at h ⊢
      rw [wpOps_cons]
      refine wpOp_mono ?_ (h (putAll a0 ss t.reverse) ⟨fun s hs => eval_out _ _ _ _ hs, fun s hs => by rw [putAll_size, hn]; exact hs, fun k p s v hk hv hp hsn => ?_, fun k s hk hks => ?_⟩)
      · rintro a' w' ⟨o, v, ho, rfl, hq⟩
        obtain ⟨s, hs, hds⟩ := okSlots_at hss ho
        have e : (putAll a0 ss t.reverse).put o.dst v = putAll a0 ss (v :: t).reverse := by
          have e1 := putAll_snoc ss t.reverse a0 s v (by rw [List.length_reverse, hti]; exact hs)
          rw [List.reverse_cons]
          rcases hds with ⟨h1, h2⟩ | ⟨h1, h2⟩
          · rw [h1]; exact e1
          · rw [h1, ← e1, put_far _ (by rw [putAll_size, hn]; exact h2)]; rfl
        rw [e]
        exact ih (i + 1) (v :: t) w' (by omega) (by simp [hti]) hq
      · have hv' : t.reverse[k]? = some v := by
          rw [List.getElem?_reverse (by omega), show t.length - 1 - k = p by omega]
          exact hv
        have := putAll_at ss t.reverse a0 k s v hnd hk hv' (by rw [hn]; exact hsn)
        simp only [Act.eval, Array.getD_eq_getD_getElem?]
        rw [this]
        rfl
      · rw [putAll_take]
        refine eval_out _ _ _ _ fun hm => ?_
        obtain ⟨j, hj, e⟩ := List.getElem_of_mem hm
        rw [List.getElem_take] at e
        have hj2 : j < t.length := by rw [List.length_take, List.length_reverse] at hj; omega
        have hj3 : ss[j]? = some s := by rw [← e]; exact List.getElem?_eq_getElem _
        have := (List.getElem?_inj (List.getElem?_eq_some_iff.1 hj3).1 hnd).1 (hj3.trans hks.symm)
        omega
  rw [List.range_eq_range'] at h ⊢
  have hk := key ops.size 0 [] w (by omega) rfl h
  rw [show putAll a0 ss ([] : List Value).reverse = a0 by cases ss <;> rfl] at hk
  exact hk
theorem beq_t (b : Bool) : (b == true) = b := by cases b <;> rfl
theorem beq_f (b : Bool) : (b == false) = !b := by cases b <;> rfl
theorem Mod.goS {S S' T : Nat → Prop} {w a b : World} (h : Mod S w a) (hm : Mod T a b) (hS : ∀ k, S k → S' k) (hT : ∀ k, k < w.heap.size → T k → S' k) : Mod S' w b := (h.mono (fun k _ h => hS k h)).trans hm hT
theorem Mod.goE {S : Nat → Prop} {w a b : World} (h : Mod S w a) (hm : Mod (fun _ => False) a b) : Mod S w b := h.trans hm (fun _ _ h => h.elim)
theorem ev {a1 a0 : Act} (h : Hid (a1 = a0)) (k : Nat) {v : Value} (e : a1.tmps.toList[k]? = some v) : a0.eval (.tmp k) = v := by
  have h := h.out
  subst h
  simp only [Act.eval, Array.getD_eq_getD_getElem?]
  rw [← Array.getElem?_toList, e]
  rfl
theorem wp_region_U {id : Nat} {a1 : Act} (n : Nat) (ss : List Nat) (c : List Nat) (h : ∀ a0, Hid (a1 = a0) → QSeq P ops Q a0 n ss c [] w) (hn : a1.tmps.size = n := by rfl) (hc : c = List.range ops.size := by kernel_rfl) (hss : okSlots ops n ss = true := by kernel_rfl) (hnd : ss.Nodup := by decide) : (Code.region id ops false).wp P Q a1 w :=
  wp_region_S n hn ss c (h a1 rfl) hc hss hnd
theorem Cs.eqv {g : Nat} {a b : Array Value} {T : TypeId} (h : Cs w g a T) (e : a = b) : Cs w g b T := e ▸ h
theorem one1 {v : Value} (h : v.oneCell' = true := by rfl) : ∀ u ∈ [v], u.oneCell' = true := by
  intro u hu
  rw [List.mem_singleton] at hu
  rw [hu]
  exact h
theorem ec {x : Operand} {v : Value} {vs : List Value} (h : a.eval x = v) (e : v.cells = vs.toArray := by rfl) : (a.eval x).cells = vs.toArray := by rw [h]; exact e
theorem sB {R : Nat → Prop} {m b : Nat} (hb : Hid (∀ k, R k → k < m)) (h : m ≤ b := by omega) : ∀ k, R k → k = b → False := fun k h1 h2 => by have := hb.out k h1; omega
theorem sN {R : Nat → Prop} {m : Nat} {x y : World} (hb : Hid (∀ k, R k → k < m)) (h : m ≤ x.heap.size := by omega) : ∀ k, R k → x.heap.size ≤ k ∧ k < y.heap.size → False := fun k h1 h2 => by have := hb.out k h1; omega
theorem pz : (∀ a ss, putAll a ss [] = a) ∧ (∀ a s ss v vs, putAll a (s :: ss) (v :: vs) = putAll (a.put (some s) v) ss vs) := ⟨fun a ss => by cases ss <;> rfl, fun _ _ _ _ _ => rfl⟩
theorem QSeq.call {F : FuncId} {xs : Array Operand} {ts : Array TypeId} {args : Array Value} {post : Ending → World → Prop} {fn : Func} (ho : ops[i]? = some o) (hop : o.op = .call { callee := .value (.func F), args := xs, argTypes := ts }) (hf : P.funcs[F]? = some fn)
    (hcl : Calls P F args w post) (ha : ∀ {a}, SqE a0 n ss t a → xs.map a.eval = args) (hp : ∀ e w', post e w' → ∃ v, e = .returned v ∧ QSeq P ops Q a0 n ss c (v :: t) w') (hg : o.guard = none := by rfl) (hn : (fn.name == "runtime.NumGoroutine") = false := by kernel_rfl) (hb : fn.body.isNone = false := by kernel_rfl) : QSeq P ops Q a0 n ss (i :: c) t w :=
  QSeq.go (fun a E => qc_callF ho (wanted_none hg) hop hf (ha E) hcl hp hn hb) ho
end
end Go.Gv

/- gavelref01: numbers and rows as bytes. -/
namespace Go.Proofs.YtpnikilkcifncaaGreat
open Go Go.RowKit Go.Gv

/-- the blocks of what an append gave: those before, or new ones since w -/
theorem AppB.trans {w0 w w' : World} {v v' : Value} {bs : List Int} (h : AppB w v bs v' w') (hm : Mod (fun _ => False) w0 w) (hf : Fresh w0 v) : Mod (fun _ => False) w0 w' ∧ Fresh w0 v' := by
 obtain ⟨h1, h2, h3⟩ := h
 refine ⟨hm.trans h2 (fun i hi hk => by have := hf i hk.symm; omega), fun g hg => ?_⟩
 rcases h3 with h3 | ⟨k, h3, hk⟩
 ·exact hf g (h3 ▸ hg)
 ·rw [h3] at hg
  obtain rfl : k = g := by simpa using hg
  exact Nat.le_trans hm.size hk

end Go.Proofs.YtpnikilkcifncaaGreat

/- gavelref01.join: bytes, one behind the other; a region that joins what calls answer. -/
namespace Go.Gv
open Go Go.RowKit
section
variable {P : Program} {o : Oper} {a : Act} {w w' : World}
end
/-- marks turn no cell -/
theorem Marked.cell {B : Nat} {T8 : TypeId} {w w' : World} (hm : Marked B T8 w w') {p : Addr} {u : Value} (h : w.cell? p = some u) : w'.cell? p = some u := by
  have hlt := World.block_lt_of_cell? _ _ h
  rcases hm.block p.block hlt with h1 | ⟨-, C, m, h1, h2⟩
  · exact (World.cell?_of_block h1).trans h
  · unfold World.cell? at h ⊢
    rw [h1] at h
    rw [h2]
    exact h
theorem Rd.cells {s n : Nat} {w w' : World} {v : Value} {cs : List Value} (h : Rd s w v n cs) (hc : ∀ p u, w.cell? p = some u → w'.cell? p = some u) : Rd s w' v n cs := by
  obtain ⟨hl, ao, cap, rfl, h1, h2, h3, h4⟩ := h
  exact ⟨hl, ao, cap, rfl, h1, h2, h3, fun x hx j u hu => ⟨(h4 x hx j u hu).1, hc _ _ (h4 x hx j u hu).2⟩⟩
theorem Rd.old {s n : Nat} {w : World} {v : Value} {cs : List Value} (hs : 0 < s) (h : Rd s w v n cs) (h0 : 0 < n) : ∀ g, v.ownBlock = some g → g < w.heap.size := by
  rcases h.form hs with ⟨rfl, _⟩ | ⟨g, o, cap, _, rfl, _, _, hl, hc⟩
  · omega
  · intro g' hg
    have e : g = g' := by simpa [Value.ownBlock] using hg
    subst e
    have hlt : 0 < cs.length := by rw [hl]; exact Nat.mul_pos h0 hs
    exact World.block_lt_of_cell? _ _ (hc 0 _ (List.getElem?_eq_getElem hlt))
end Go.Gv
namespace Go.Proofs.YtpnikilkcifncaaGreat
open Go Go.RowKit Go.Gv

theorem RdB.cells {w w' : World} {v : Value} {bs : List Int} (h : RdB w v bs) (hc : ∀ p u, w.cell? p = some u → w'.cell? p = some u) : RdB w' v bs := ⟨h.1, h.2.cells hc⟩
/-- rows of bytes: the outer list, and each row where it lies -/
structure RdJ (w : World) (v : Value) (rs : List (Value × List Int)) : Prop where
  o : Rd 1 w v rs.length (rs.map (·.1))
  f : ∀ p ∈ rs, RdB w p.1 p.2
theorem RdJ.cells {w w' : World} {v : Value} {rs : List (Value × List Int)} (h : RdJ w v rs) (hc : ∀ p u, w.cell? p = some u → w'.cell? p = some u) : RdJ w' v rs := ⟨h.o.cells hc, fun p hp => (h.f p hp).cells hc⟩
theorem RdJ.shape {w : World} {v : Value} {rs : List (Value × List Int)} (h : RdJ w v rs) : ∃ ao cap, v = .slice ao rs.length cap := by
  obtain ⟨_, ao, cap, e, _⟩ := h.o
  exact ⟨ao, cap, e⟩
theorem RdJ.at {w : World} {ao : Option Addr} {n cap : Nat} {rs : List (Value × List Int)} (h : RdJ w (.slice ao n cap) rs) {i : Nat} (hi : i < rs.length) :
    ∃ g o, ao = some ⟨g, o, none⟩ ∧ g < w.heap.size ∧ w.cell? ⟨g, o + i, none⟩ = some rs[i].1 := by
  rcases h.o.form (by decide) with ⟨h0, _⟩ | ⟨g, o, cap', h0, hv, h1, h2, hl, hc⟩
  · omega
  · simp only [Value.slice.injEq] at hv
    obtain ⟨rfl, rfl, rfl⟩ := hv
    exact ⟨g, o, rfl, h.o.old (by decide) h0 g rfl, hc i _ (by simp [List.getElem?_eq_getElem hi])⟩
/-- a new outer list -/
theorem RdJ.new {w : World} {e : TypeId} {rs : List (Value × List Int)} (h : ∀ p ∈ rs, RdB w p.1 p.2) (hl : rs.length ≤ 1000) {C : Array Value} (hC : C = (rs.map (·.1)).toArray) {n : Nat} (hn : n = rs.length) : RdJ (w.alloc (.cells C e)) (.slice (some ⟨w.heap.size, 0, none⟩) n n) rs := by
  subst hC
  subst hn
  refine ⟨Rd.mk (Nat.le_refl _) (by rw [maxLen_val]; omega) (by simp) fun j y hy => ?_, fun p hp => (h p hp).alloc _⟩
  rw [Nat.zero_add, (Cs.new w _ e).cell]
  simpa using hy
def flat (rs : List (Value × List Int)) : List Int := (rs.map (·.2)).flatten
theorem litG.rd {B K : Nat} {bs : List Int} {t : List Value} {v : Value} {w : World} (h : litG B 5 K (bs.map bv).toArray t v w) (hk : t.length ≤ K) (hb : Bytes bs) (hl : bs.length ≤ 1000000) : RdB w v bs := by
  obtain ⟨g, rfl, -, m, -, h4⟩ := h hk
  have e : (bs.map bv).toArray.size = bs.length := by simp
  rw [e]
  refine ⟨hb, Rd.mk (Nat.le_refl _) (by rw [maxLen_val]; omega) (by simp) fun j y hy => ?_⟩
  rw [Nat.zero_add]
  simp only [World.cell?, h4]
  simpa using hy
theorem StillM.obj {B K k : Nat} {w w' : World} (h : StillM B 5 K k w w') {g : Nat} {c : Array Value} {e : TypeId} (hc : Cs w g c e) (he : e ≠ 5) : Cs w' g c e := by
  rcases h with h | ⟨-, h⟩
  · exact hc.mod h (fun h => h)
  · rcases h.block g hc.lt with h1 | ⟨-, C, m, h1, -⟩
    · exact h1.trans hc
    · unfold Cs at hc
      rw [hc] at h1
      cases h1
      exact absurd rfl he
end Go.Proofs.YtpnikilkcifncaaGreat

/- Bytes in regions told step by step: appends, rows of rows, strings as bytes, writers' ends. -/
namespace Go.Proofs.YtpnikilkcifncaaGreat
open Go Go.RowKit Go.Gv

section
variable {ops : Array Oper} {Q : Exit → Act → World → Prop} {i : Nat} {o : Oper} {a : Act} {w : World} {KQ : Value → World → Prop} {B : Nat} {S0 Z : Nat → Prop} {t : List Value} {l : List QPred}
/-- one of the chain appends bytes -/
theorem qc_appR {s x : Operand} {R R' : Nat → Prop} {N M : Nat} {v xv : Value} {bs new : List Int} (ho : ops[i]? = some o) (hw : Region.wanted o (yielded ops a.tmps) = true) (hop : o.op = .call { callee := .builtin .append, args := #[s, x], argTypes := #[52, 52] })
    (hs : a.eval s = v) (hx : a.eval x = xv) (hown : OwR R N w v bs) (hrd : RdR R' M w xv new) (hroom : (bs ++ new).length ≤ 900000)
    (h : ∀ ao cap w', OwR (fun k => R k ∨ New w w' k) 900000 w' (.slice ao (bs.length + new.length) cap) (bs ++ new) → Mod R w w' → KQ (.slice ao (bs.length + new.length) cap) w') : wpOp Tryz.prog ops Q i (fun a' w' => ∃ v, a' = a.put o.dst v ∧ KQ v w') a w := by
  obtain ⟨i0, hi, hz0, hz1, hz2⟩ := info_parts info_u8
  have hlen : bs.length + new.length ≤ 900000 := by simpa using hroom
  obtain ⟨ao, cap, w', hr, h1, h2, h3⟩ := run_append (P := Tryz.prog) w 52 o.type 5 i0 (.int .u8 0) 1 1 Tryz.underlying52 hi hz0 hz1 hz2 rfl (by decide) IsB_zero v _ _ hown.1 xv new.length (new.map bv) hrd.1.2 (isB_all hrd.1.1) (ints_oneCell .u8 new) (by omega) (by rw [maxLen_val]; omega)
  refine qc_run ho hw (ex_append hop hs hx hr) (h ao cap w' ⟨?_, (fun g hg => ?_), hroom⟩ (h2.mono (fun k _ hk => hown.2.1 k hk.symm)))
  · unfold OwnB
    rw [List.length_append, List.map_append]
    exact h1
  · rcases h3 with h3 | ⟨k, h3, hk⟩
    · exact .inl (hown.2.1 g (h3 ▸ hg))
    · rw [h3] at hg
      obtain rfl : k = g := by simpa using hg
      exact .inr ⟨hk, Own.lt h1 h3⟩
theorem ql.rd {bs : List Int} {v : Value} (hb : Bytes bs) (h : ql B 5 (bs.map bv).toArray Z t v w) (hl : bs.length ≤ 1000000) : ∃ R : Nat → Prop, (∀ j, R j → B ≤ j ∧ ¬ Z j ∧ j < w.heap.size) ∧ RdR R bs.length w v bs := by
  obtain ⟨g, rfl, hB, hZ, m, h4⟩ := h
  have e : (bs.map bv).toArray.size = bs.length := by simp
  refine ⟨fun k => k = g, fun j hj => by subst hj; exact ⟨hB, hZ, (Array.getElem?_eq_some_iff.1 h4).1⟩, ⟨hb, ?_⟩, fun _ k hk => by cases hk; rfl, Nat.le_refl _⟩
  rw [e]
  refine Rd.mk (Nat.le_refl _) (by rw [maxLen_val]; omega) (by simp) fun j y hy => ?_
  rw [Nat.zero_add]
  simp only [World.cell?, h4]
  simpa using hy
/-- a string's bytes -/
def bytesOf (s : ByteArray) : List Int := s.data.toList.map fun b => (b.toNat : Int)
theorem bytesOf_len (s : ByteArray) : (bytesOf s).length = s.size := by unfold bytesOf; rw [List.length_map]; rfl
theorem bytesOf_ok (s : ByteArray) : Bytes (bytesOf s) := by
  intro x hx
  obtain ⟨b, -, rfl⟩ := List.mem_map.1 hx
  have := b.toNat_lt
  omega
theorem str_bytes (w : World) (s : ByteArray) (hs : s.size ≤ 1000000) : ∃ cap w', (convert 9 52 (.string s)).run Tryz.prog w = .ok (.slice (some ⟨w.heap.size, 0, none⟩) s.size cap) w' ∧ RdR (fun k => k = w.heap.size) 1000000 w' (.slice (some ⟨w.heap.size, 0, none⟩) s.size cap) (bytesOf s) ∧ Mod (fun _ => False) w w' ∧ w'.heap.size = w.heap.size + 1 := by
  refine ⟨_, _, Lib.run_convert_string_bytes (P := Tryz.prog) w _ _ 5 s Tryz.underlying9 Tryz.underlying52 Tryz.underlying5, ⟨⟨bytesOf_ok s, ?_⟩, (fun _ g hg => by cases hg; rfl), by rw [bytesOf_len]; exact hs⟩, ⟨rfl, rfl, rfl, by rw [Lib.bytesWorld_size]; omega, fun k hk _ => Lib.bytesWorld_at_old w _ s k hk⟩, Lib.bytesWorld_size w _ s⟩
  rw [bytesOf_len]
  refine Rd.mk (grownCap_ge w s.size 0 _) (grownCap_le_maxLen w s.size 0 _ (by rw [maxLen_val]; omega)) (by rw [List.length_map, bytesOf_len, Nat.mul_one]) fun j u hu => ?_
  rw [Nat.zero_add]
  have hj : j < s.size := by have := (List.getElem?_eq_some_iff.1 hu).1; rwa [List.length_map, bytesOf_len] at this
  rw [Lib.bytesWorld_cell w _ s j hj, ← hu]
  simp only [bytesOf, List.map_map, List.getElem?_map]
  have hj2 : j < s.data.toList.length := by rw [Array.length_toList]; exact hj
  rw [List.getElem?_eq_getElem hj2]
  simp only [Option.map_some, Function.comp, List.getD, List.getElem?_eq_getElem hj2, Option.getD_some]
theorem ex_convW {P : Program} {o : Oper} {a : Act} {w w' : World} {src dst : TypeId} {x : Operand} {u v : Value} (ho : o.op = .convert src dst x) (hx : a.eval x = u) (hr : (convert src dst u).run P w = .ok v w') : (execOp a.eval o).run P w = .ok (.value v) w' := by
  unfold execOp; simp [ho, hx, hr]
/-- beside the chain a string is made bytes -/
theorem qe_strB {x : Operand} {s : ByteArray} (ho : ops[i]? = some o) (hw : Region.wanted o (yielded ops a.tmps) = true) (hop : o.op = .convert 9 52 x) (hx : a.eval x = .string s) (hs : s.size ≤ 1000000) (hB : B ≤ w.heap.size) (hZ : ∀ j, Z j → j < w.heap.size)
    (hv : ∀ v w', qr B S0 (fun R w v => RdR R 1000000 w v (bytesOf s)) Z t v w' → (l.getD i qa) Z t v w') : wpOp Tryz.prog ops Q i (QJ B l Z i o t a w) a w := by
  obtain ⟨cap, w', hr, h1, h2, h3⟩ := str_bytes w s hs
  refine qe_run ho hw (ex_convW hop hx hr) (QE.still h2) (hv _ _ ⟨fun k => k = w.heap.size, fun j hj => ?_, h1⟩)
  subst hj
  exact ⟨by omega, fun h => by omega, fun h => by have := hZ _ h.2; omega⟩
theorem rdR_cells {bs : List Int} {N : Nat} : ∀ R w w' v, RdR R N w v bs → (∀ p u, R p.block → w.cell? p = some u → w'.cell? p = some u) → RdR R N w' v bs :=
  fun R w w' v h hk => ⟨⟨h.1.1, h.1.2.keepc fun h0 g hg p u hp hc => hk p u (hp ▸ h.2.1 h0 g hg) hc⟩, h.2⟩
theorem NewWriter_Q (w : World) : Calls Tryz.prog 68 #[] w fun e w' => ∃ b, e = .returned (.pointer (some ⟨b, 0, none⟩)) ∧ WrR (New w w') 900000 w' b [] ∧ Mod (fun _ => False) w w' :=
  (NewWriter_R w).mono fun e w' ⟨b, he, h, hm⟩ => ⟨b, he, h.widen (fun _ h => h) (by omega), hm⟩
theorem WBytes_Q {R : Nat → Prop} {b : Nat} {bs : List Int} {w : World} (hW : WrR R 900000 w b bs) :
    Calls Tryz.prog 71 #[.pointer (some ⟨b, 0, none⟩)] w fun e w' => ∃ v', e = .returned v' ∧ OwR (New w w') 900000 w' v' bs ∧ Mod (fun _ => False) w w' := WBytes_R hW (by omega)
end
end Go.Proofs.YtpnikilkcifncaaGreat

/- SHA-256 in plain words, as the program's own operations spell it; bits.RotateLeft32 and sha.word. -/
namespace Go.Proofs.YtpnikilkcifncaaGreat
open Go Go.RowKit Go.Gv

abbrev wv (x : Int) : Value := .int .u32 x
/-- a word turned to the right -/
def rr (n : Nat) (x : Int) : Int := bits .or .u32 (IntKind.u32.wrap (x * 2 ^ (32 - n))) (x / 2 ^ n)
def xr (a b : Int) : Int := bits .xor .u32 a b
def an (a b : Int) : Int := bits .and .u32 a b
def pl (a b : Int) : Int := (a + b) % 4294967296
def wordOf (a b c d : Int) : Int := bits .or .u32 (bits .or .u32 (bits .or .u32 (a % 4294967296 * 16777216 % 4294967296) (b % 4294967296 * 65536 % 4294967296)) (c % 4294967296 * 256 % 4294967296)) (d % 4294967296)

end Go.Proofs.YtpnikilkcifncaaGreat

/- sha.spread: a block as 64 words. -/
namespace Go.Proofs.YtpnikilkcifncaaGreat
open Go Go.RowKit Go.Gv

def wAt (bs : List Int) (i : Nat) : Int := wordOf (bs.getD (4 * i) 0) (bs.getD (4 * i + 1) 0) (bs.getD (4 * i + 2) 0) (bs.getD (4 * i + 3) 0)
def w16 (bs : List Int) (i : Nat) : List Int := (List.range i).map (wAt bs) ++ List.replicate (64 - i) 0
def spVal (p x q y : Int) : Int := pl (pl (pl p (xr (xr (rr 7 x) (rr 18 x)) (x / 8))) q) (xr (xr (rr 17 y) (rr 19 y)) (y / 1024))
def spStep (ws : List Int) (j : Nat) : List Int := ws.set (j + 16) (spVal (ws.getD j 0) (ws.getD (j + 1) 0) (ws.getD (j + 9) 0) (ws.getD (j + 14) 0))
def spTo (bs : List Int) (j : Nat) : List Int := (List.range j).foldl spStep (w16 bs 16)
def spreadF (bs : List Int) : List Int := spTo bs 48
/-- an array of words in a block -/
def Ws (T : TypeId) (w : World) (g : Nat) (ws : List Int) : Prop := Cs w g (ws.map wv).toArray T
theorem Ws.cell {T : TypeId} {w : World} {g : Nat} {ws : List Int} (h : Ws T w g ws) {j : Nat} (hj : j < ws.length) : w.cell? ⟨g, j, none⟩ = some (wv (ws.getD j 0)) := by
 rw [Cs.cell h]; simp [List.getD, List.getElem?_eq_getElem hj]
theorem Ws.mod {T : TypeId} {S : Nat → Prop} {w w' : World} {g : Nat} {ws : List Int} (h : Ws T w g ws) (hm : Mod S w w') (hn : ¬ S g) : Ws T w' g ws := Cs.mod h hm hn
theorem Ws.set {T : TypeId} {w : World} {g : Nat} {ws : List Int} (h : Ws T w g ws) (j : Nat) (x : Int) : Ws T (w.setCell ⟨g, j, none⟩ (wv x)) g (ws.set j x) := by
 have := Cs.set h j (wv x)
 unfold Ws
 simpa [List.map_set] using this
theorem Ws.frozen {T : TypeId} {w : World} {g : Nat} {ws : List Int} (h : Ws T w g ws) (j : Nat) : w.frozen? ⟨g, j, none⟩ = false := Cs.frozen h j
end Go.Proofs.YtpnikilkcifncaaGreat

/- sha.mix: a block goes into the state. -/
namespace Go.Proofs.YtpnikilkcifncaaGreat
open Go Go.RowKit Go.Gv

section
variable {w0 w : World} {v : Value} {hs F z8 z64 : List Int} {g3 : Nat} {L : Nat → Bool} {vs : List Value}
end

def mixT (s : List Int) (k x : Int) : Int := (s.getD 7 0 + xr (xr (rr 6 (s.getD 4 0)) (rr 11 (s.getD 4 0))) (rr 25 (s.getD 4 0)) + xr (an (s.getD 4 0) (s.getD 5 0)) (an (xr 4294967295 (s.getD 4 0)) (s.getD 6 0)) + k + x) % 4294967296
def mixU (s : List Int) : Int := (xr (xr (rr 2 (s.getD 0 0)) (rr 13 (s.getD 0 0))) (rr 22 (s.getD 0 0)) + xr (xr (an (s.getD 0 0) (s.getD 1 0)) (an (s.getD 0 0) (s.getD 2 0))) (an (s.getD 1 0) (s.getD 2 0))) % 4294967296
def mixStep (s : List Int) (k x : Int) : List Int := [pl (mixT s k x) (mixU s), s.getD 0 0, s.getD 1 0, s.getD 2 0, pl (s.getD 3 0) (mixT s k x), s.getD 4 0, s.getD 5 0, s.getD 6 0]
def mixTo (hs ks ws : List Int) (n : Nat) : List Int := (List.range n).foldl (fun s i => mixStep s (ks.getD i 0) (ws.getD i 0)) hs
def addTo (hs s : List Int) (n : Nat) : List Int := (List.range n).foldl (fun h i => h.set i (pl (h.getD i 0) (s.getD i 0))) hs
def mixF (hs ks bs : List Int) : List Int := addTo hs (mixTo hs ks (spreadF bs) 64) 8

end Go.Proofs.YtpnikilkcifncaaGreat

/- The rounds' numbers; an element of an array value; SHA-256 in plain words. -/
namespace Go.Proofs.YtpnikilkcifncaaGreat
open Go Go.RowKit Go.Gv

def K256 : List Int := [1116352408, 1899447441, 3049323471, 3921009573, 961987163, 1508970993, 2453635748, 2870763221, 3624381080, 310598401, 607225278, 1426881987, 1925078388, 2162078206, 2614888103, 3248222580, 3835390401, 4022224774, 264347078, 604807628, 770255983, 1249150122, 1555081692, 1996064986, 2554220882, 2821834349, 2952996808, 3210313671, 3336571891, 3584528711, 113926993, 338241895, 666307205, 773529912, 1294757372, 1396182291, 1695183700, 1986661051, 2177026350, 2456956037, 2730485921, 2820302411, 3259730800, 3345764771, 3516065817, 3600352804, 4094571909, 275423344, 430227734, 506948616, 659060556, 883997877, 958139571, 1322822218, 1537002063, 1747873779, 1955562222, 2024104815, 2227730452, 2361852424, 2428436474, 2756734187, 3204031479, 3329325298]
def H256 : List Int := [1779033703, 3144134277, 1013904242, 2773480762, 1359893119, 2600822924, 528734635, 1541459225]
end Go.Proofs.YtpnikilkcifncaaGreat

/- gavellaw01.Act: a call, as an argument holds it. -/
namespace Go.Proofs.YtpnikilkcifncaaGreat
open Go Go.RowKit Go.Gv Go.ChangeShapes Go.WideShapes Go.ChangeAt Go.Deep

structure Act01 where
 Do : Int
 N : Int
 U : Nat
 VB : Value
 B : List Int
 H : List Int
instance : Inhabited Act01 := ⟨⟨0, 0, 0, .slice none 0 0, [], List.replicate 32 0⟩⟩
def Act01.tail (a : Act01) : List Value := (List.range 32).map fun i => bv (a.H.getD i 0)
def Act01.cells (a : Act01) : List Value := .int .i64 a.Do :: .int .i64 a.N :: .int .u64 a.U :: a.VB :: a.tail
structure Act01.Ok (W : World) (a : Act01) : Prop where
 d : -9223372036854775808 ≤ a.Do ∧ a.Do ≤ 9223372036854775807
 n : -9223372036854775808 ≤ a.N ∧ a.N ≤ 9223372036854775807
 u : a.U < U64
 b : RdR (fun k => k < W.heap.size) a.B.length W a.VB a.B
 h : a.H.length = 32
 hb : Bytes a.H
theorem Act01.len (a : Act01) : a.cells.length = 36 := by simp [Act01.cells, Act01.tail]
end Go.Proofs.YtpnikilkcifncaaGreat

/- Local copies of an Act; lent texts with their blocks. -/
namespace Go.Proofs.YtpnikilkcifncaaGreat
open Go Go.RowKit Go.Gv

section
variable {α : Type} {s : Nat} {cells : α → List Value} {R R' S : Nat → Prop} {w w' : World} {v : Value} {l : List α}
theorem RdE.shape (h : RdE s cells R w v l) : ∃ ao cap, v = .slice ao l.length cap ∧ l.length ≤ maxLen := by
  rcases h with ⟨rfl, ao, cap, rfl⟩ | ⟨g, o, cap, _, rfl, _, h1, h2, _⟩
  · exact ⟨ao, cap, rfl, by simp⟩
  · exact ⟨_, cap, rfl, by omega⟩
theorem RdE.at {ao : Option Addr} {n cap : Nat} (h : RdE s cells R w (.slice ao n cap) l) {i : Nat} (hi : i < l.length) :
    ∃ g o, ao = some ⟨g, o, none⟩ ∧ ∀ j u, (cells l[i])[j]? = some u → w.cell? ⟨g, o + i * s + j, none⟩ = some u := by
  rcases h with ⟨rfl, _⟩ | ⟨g, o, cap', _, e, _, _, _, h6⟩
  · exact absurd hi (by simp)
  · simp only [Value.slice.injEq] at e
    exact ⟨g, o, e.1, fun j u => h6 i hi j u⟩
theorem RdE.widen (h : RdE s cells R w v l) (hs : ∀ k, R k → R' k) : RdE s cells R' w v l := by
  rcases h with h | ⟨g, o, cap, h1, h2⟩
  · exact .inl h
  · exact .inr ⟨g, o, cap, hs g h1, h2⟩
end

section
variable {R R' S : Nat → Prop} {w w' : World} {g : Nat} {a : Act01}
end
theorem Act01.one {W : World} {a : Act01} (h : a.Ok W) : ∀ u ∈ a.cells, u.oneCell' = true := by
  intro u hu
  obtain ⟨ao, cap, e⟩ := h.b.shape
  simp only [Act01.cells, Act01.tail, List.mem_cons, List.mem_map] at hu
  rcases hu with rfl | rfl | rfl | rfl | ⟨i, _, rfl⟩
  · rfl
  · rfl
  · rfl
  · rw [e]; rfl
  · rfl
/-- a lent text with its block -/
def LentR (R : Nat → Prop) (N : Nat) (w : World) (v : Value) (bs : List Int) : Prop := Lent w v bs ∧ (∀ g, v.ownBlock = some g → R g) ∧ Bytes bs ∧ bs.length ≤ N ∧ N ≤ 1000000
section
variable {R R' S : Nat → Prop} {N M : Nat} {w w' : World} {v : Value} {bs : List Int}
theorem LentR.mod (h : LentR R N w v bs) (hm : Mod S w w') (hs : ∀ k, R k → S k → False) : LentR R N w' v bs := by
  obtain ⟨⟨g, rfl, hc⟩, h2, h3⟩ := h
  exact ⟨⟨g, rfl, hc.mod hm (hs g (h2 g rfl))⟩, h2, h3⟩
theorem LentR.widen (h : LentR R N w v bs) (hs : ∀ k, R k → R' k) (_hM : N ≤ N) : LentR R' N w v bs := ⟨h.1, fun g hg => hs g (h.2.1 g hg), h.2.2⟩
theorem LentR.rd (h : LentR R N w v bs) : RdR R N w v bs := by
  obtain ⟨⟨g, rfl, hc⟩, h2, h3, h4, h5⟩ := h
  refine ⟨⟨h3, ?_⟩, fun _ => h2, h4⟩
  refine Rd.mk (by omega) (by rw [maxLen_val]; omega) (by simp) fun j u hu => ?_
  rw [Nat.zero_add, hc.cell]
  have hj : j < bs.length := by have := (List.getElem?_eq_some_iff.1 hu).1; simpa using this
  simp only [List.getElem?_map, List.getElem?_toArray] at hu ⊢
  rw [← hu]
  congr 1
  unfold lendc
  rw [List.getElem?_append_left hj]
end
end Go.Proofs.YtpnikilkcifncaaGreat

/- What calls write, what is read of it, what is read of a strict beginning of it. -/
namespace Go.Proofs.YtpnikilkcifncaaGreat
open Go Go.RowKit Go.Gv

theorem RdR.upto {R : Nat → Prop} {N : Nat} {w : World} {ao : Option Addr} {n cap : Nat} {bs : List Int} (h : RdR R N w (.slice ao n cap) bs) (k : Nat) (hk : k ≤ bs.length) : RdR R N w (.slice ao k cap) (bs.take k) := by
 refine ⟨h.1.upto k hk, fun h0 g hg => h.2.1 (by simp at h0; omega) g (by cases ao <;> simp_all [Value.ownBlock]), by have := h.2.2; simp; omega⟩

/-- the state of a reader that has less than all of `full` ahead -/
def SP (s : RSt) (full : List Int) : Prop := s = none ∨ ∃ t, s = some t ∧ t <+: full ∧ t.length < full.length

theorem SP.nil {s : RSt} (h : SP s []) : s = none := by
 rcases h with h | ⟨t, _, _, h⟩
 ·exact h
 ·simp at h
theorem SP.cut {t a rest : List Int} (h1 : t <+: a ++ rest) (h2 : t.length < (a ++ rest).length) : (t <+: a ∧ t.length < a.length) ∨ ∃ t', t = a ++ t' ∧ SP (some t') rest := by
 rcases Nat.lt_or_ge t.length a.length with h | h
 ·exact .inl ⟨List.prefix_of_prefix_length_le h1 (List.prefix_append a rest) (by omega), h⟩
 ·obtain ⟨t', rfl⟩ := List.prefix_of_prefix_length_le (List.prefix_append a rest) h1 h
  refine .inr ⟨t', rfl, .inr ⟨t', rfl, (List.prefix_append_right_inj a).1 h1, by simpa using h2⟩⟩

theorem dec_pre : ∀ (m i acc : Nat) (t : List Int), t <+: encN m → t.length < (encN m).length → decGo i acc t = none := by
 intro m
 induction m using Nat.strongRecOn with
 | _ m ih =>
  intro i acc t h1 h2
  by_cases hm : m < 128
  ·rw [encN_lt hm] at h2
   obtain rfl : t = [] := List.eq_nil_of_length_eq_zero (by simpa using h2)
   rfl
  ·rw [encN_ge (by omega)] at h1 h2
   cases t with
   | nil => rfl
   | cons c t =>
    obtain ⟨rfl, h1'⟩ := List.cons_prefix_cons.1 h1
    simp only [decGo]
    split
    ·rfl
    ·rw [if_neg (by omega)]
     exact ih (m / 128) (by omega) _ _ t h1' (by simpa using h2)

theorem SP.num {s : RSt} {n : Nat} {rest : List Int} (hn : n < U64) (h : SP s (encN n ++ rest)) : SP (rNum s).2 rest ∧ ((rNum s).2.isSome → (rNum s).1 = n) := by
 rcases h with rfl | ⟨t, rfl, h1, h2⟩
 ·exact ⟨.inl rfl, by simp⟩
 ·rcases SP.cut h1 h2 with ⟨h3, h4⟩ | ⟨t', rfl, h5⟩
  ·have := dec_pre n 0 0 t h3 h4
   simp [rNum, this, SP]
  ·rw [rNum_enc hn]
   exact ⟨h5, fun _ => rfl⟩
theorem SP.int {s : RSt} {n : Nat} {rest : List Int} (most : Int) (hn : n < U64) (h : SP s (encN n ++ rest)) : SP (rInt most s).2 rest ∧ ((rInt most s).2.isSome → (rInt most s).1 = n) := by
 have := h.num hn
 unfold rInt
 split
 ·exact ⟨.inl rfl, by simp⟩
 ·exact this
theorem SP.take {s : RSt} {a rest : List Int} (h : SP s (a ++ rest)) : SP (rTake a.length s).2 rest := by
 rcases h with rfl | ⟨t, rfl, h1, h2⟩
 ·exact .inl rfl
 ·rcases SP.cut h1 h2 with ⟨h3, h4⟩ | ⟨t', rfl, h5⟩
  ·simp [rTake, h4, SP]
  ·rw [rTake_app rfl]; exact h5
theorem SP.row {s : RSt} {bs rest : List Int} (most : Int) (hb : bs.length < U64) (h : SP s (encN bs.length ++ bs ++ rest)) : SP (rRow most s).2 rest := by
 rw [List.append_assoc] at h
 have h1 := h.int most hb
 unfold rRow
 cases hs : (rInt most s).2 with
 | none => exact .inl rfl
 | some u =>
  rw [h1.2 (by simp [hs]), ← hs]
  exact h1.1.take
theorem SP.hash {s : RSt} {hh rest : List Int} (hl : hh.length = 32) (h : SP s (hh ++ rest)) : SP (rHash s).2 rest := by
 have h1 := h.take
 rw [hl] at h1
 unfold rHash
 generalize rTake 32 s = q at *
 rcases q with ⟨b, _ | x⟩
 ·exact .inl rfl
 ·exact h1

section
variable {nm : Int} {row : Nat} {a : Act01}
end
end Go.Proofs.YtpnikilkcifncaaGreat

/- Slices of one-cell values (numbers, slices) that are appended to; an Act's fields in the slice itself. -/
namespace Go.Proofs.YtpnikilkcifncaaGreat
open Go Go.RowKit Go.Gv

def OwV (e : TypeId) (R : Nat → Prop) (N : Nat) (w : World) (v : Value) (cs : List Value) : Prop := Own (fun u => u.oneCell' = true) e 1 w v cs.length cs ∧ (∀ g, v.ownBlock = some g → R g) ∧ cs.length ≤ N
section
variable {e : TypeId} {R R' S : Nat → Prop} {N M : Nat} {w w' : World} {v : Value} {cs : List Value}
theorem OwV.mod (h : OwV e R N w v cs) (hm : Mod S w w') (hs : ∀ k, R k → S k → False) : OwV e R N w' v cs := ⟨Own.mod h.1 hm (fun g hg hS => hs g (h.2.1 g hg) hS), h.2⟩
theorem OwV.widen (h : OwV e R N w v cs) (hs : ∀ k, R k → R' k) (hM : N ≤ M) : OwV e R' M w v cs := ⟨h.1, fun g hg => hs g (h.2.1 g hg), Nat.le_trans h.2.2 hM⟩
theorem OwV.nil (e : TypeId) (R : Nat → Prop) (w : World) : OwV e R 0 w (.slice none 0 0) [] := ⟨Own.nil _ _ _ _, (fun g hg => by cases hg), Nat.le_refl _⟩
theorem OwV.shape (h : OwV e R N w v cs) : ∃ ao cap, v = .slice ao cs.length cap := Own.shape h.1
theorem OwV.at {ao : Option Addr} {n cap : Nat} (h : OwV e R N w (.slice ao n cap) cs) {i : Nat} (hi : i < cs.length) :
    ∃ g, ao = some ⟨g, 0, none⟩ ∧ ∀ j u, cs[j]? = some u → w.cell? ⟨g, j, none⟩ = some u := by
  obtain ⟨hl, _, ⟨hv, hn⟩ | ⟨g, cap', cur, hv, hg, h1, h2, h3, h4, _⟩⟩ := h.1
  · omega
  · simp only [Value.slice.injEq] at hv
    refine ⟨g, hv.1, fun j u hu => ?_⟩
    rw [hg.cell]
    have hj : j < cs.length := (List.getElem?_eq_some_iff.1 hu).1
    rw [← h4, List.getElem?_take, if_pos (by omega)] at hu
    simpa using hu
end
section
variable {R : Nat → Prop} {w : World} {g o n cap i : Nat} {l : List Act01} {a : Act01}
end
end Go.Proofs.YtpnikilkcifncaaGreat

/- How long a number is; a number that is written longer; a text whose last byte is turned. -/
namespace Go.Proofs.YtpnikilkcifncaaGreat
open Go Go.RowKit Go.Gv

theorem OwR.last {R : Nat → Prop} {N : Nat} {w : World} {v : Value} {ini : List Int} {d : Int} (h : OwR R N w v (ini ++ [d])) :
    ∃ g cap, v = .slice (some ⟨g, 0, none⟩) (ini.length + 1) cap ∧ R g ∧ g < w.heap.size ∧ w.cell? ⟨g, ini.length, none⟩ = some (bv d) ∧ w.frozen? ⟨g, ini.length, none⟩ = false ∧
      ∀ y : Int, 0 ≤ y → y < 256 → OwR R N (w.setCell ⟨g, ini.length, none⟩ (bv y)) v (ini ++ [y]) := by
  obtain ⟨h1, h2, h3⟩ := h
  have hby := h1.bytes
  obtain ⟨hl, hE, ⟨rfl, hn⟩ | ⟨g, cap, cur, rfl, hc, q1, q2, q3, q4, q5⟩⟩ := h1
  · simp at hn
  · have q3' : cap ≤ cur.size := by omega
    have hlen : (ini ++ [d]).length = ini.length + 1 := by simp
    rw [hlen] at q1 q4 hl
    refine ⟨g, cap, by rw [hlen], h2 g rfl, hc.lt, ?_, hc.frozen _, fun y h0 hy => ⟨?_, h2, by simpa using h3⟩⟩
    · rw [hc.cell]
      have : cur.toList[ini.length]? = some (bv d) := by
        have e : (cur.toList.take ((ini.length + 1) * 1))[ini.length]? = ((ini ++ [d]).map bv)[ini.length]? := by rw [q4]
        rw [List.getElem?_take, if_pos (by omega)] at e
        rw [e]; simp
      simpa using this
    · refine ⟨by simp, ?_, .inr ⟨g, cap, cur.setIfInBounds ini.length (bv y), by simp, hc.set ini.length (bv y), by simpa using q1, q2, by simpa using q3, ?_, ?_⟩⟩
      · refine isB_all ?_
        intro x hx
        rcases List.mem_append.1 hx with h | h
        · exact hby x (List.mem_append_left _ h)
        · simp at h; subst h; exact ⟨h0, hy⟩
      · rw [Array.toList_setIfInBounds]
        have e2 : (ini ++ [y]).length * 1 = (ini.length + 1) * 1 := by simp
        rw [e2, List.take_set, q4, List.map_append, List.map_append]
        rw [List.set_append_right _ _ (by simp)]
        simp
      · intro u hu
        rw [Array.toList_setIfInBounds] at hu
        rcases List.mem_or_eq_of_mem_set hu with h | h
        · exact q5 u h
        · exact ⟨y, h, h0, hy⟩

end Go.Proofs.YtpnikilkcifncaaGreat

/- sha.Sum. -/
namespace Go.Proofs.YtpnikilkcifncaaGreat
open Go Go.RowKit Go.Gv

def padZ (n : Nat) : Nat := (119 - n % 64) % 64
def padded (bs : List Int) (j : Nat) : List Int := bs ++ [128] ++ List.replicate j 0
def lenB (n i : Nat) : Int := ((n : Int) * 8) / 2 ^ (56 - 8 * i) % 256
def fullTo (bs : List Int) (i : Nat) : List Int := padded bs (padZ bs.length) ++ (List.range i).map (lenB bs.length)
def fullB (bs : List Int) : List Int := fullTo bs 8
def blocksTo (fb : List Int) (t : Nat) : List Int := (List.range t).foldl (fun h j => mixF h K256 (fb.drop (64 * j))) H256
def outB (h : List Int) (q : Nat) : Int := (h.getD (q / 4) 0) / 2 ^ (24 - 8 * (q % 4)) % 256
def shaF (bs : List Int) : List Int := (List.range 32).map (outB (blocksTo (fullB bs) ((fullB bs).length / 64)))
def lenOf : Value → Nat
 | .slice _ n _ => n
 | _ => 0
/-- the padded bytes, in blocks of their own -/
def FulO (w0 : World) (w : World) (v : Value) (bs : List Int) : Prop := OwR (fun k => w0.heap.size + 2 ≤ k) bs.length w v bs
theorem FulO.mod {S : Nat → Prop} {w0 w w' : World} {v : Value} {bs : List Int} (o : FulO w0 w v bs) (hm : Mod S w w') (hS : ∀ k, S k → k < w0.heap.size + 2) : FulO w0 w' v bs := OwR.mod o hm (fun k h1 h2 => by have := hS k h2; omega)

end Go.Proofs.YtpnikilkcifncaaGreat

/- A writer that a region fills, one call behind the other: the state for wp_region_G. -/
namespace Go.Proofs.YtpnikilkcifncaaGreat
open Go Go.RowKit Go.Gv

end Go.Proofs.YtpnikilkcifncaaGreat

/- commit.Of. -/
namespace Go.Proofs.YtpnikilkcifncaaGreat
open Go Go.RowKit Go.Gv

def I64 (n : Int) : Prop := -9223372036854775808 ≤ n ∧ n ≤ 9223372036854775807
end Go.Proofs.YtpnikilkcifncaaGreat

/- commit.Text. -/
namespace Go.Proofs.YtpnikilkcifncaaGreat
open Go Go.RowKit Go.Gv

/-- a commitment -/
structure Cm where
 cl : Int
 sq : Int
 h : List Int
 ln : Int
 sb : Int
 mr : Int
def Cm.cells (c : Cm) : List Value := [.int .i64 c.cl, .int .i64 c.sq] ++ (c.h.map bv ++ [.int .i64 c.ln, .int .i64 c.sb, .int .i64 c.mr])
def Cm.val (c : Cm) : Value := .agg c.cells.toArray
/-- its numbers are numbers, its hash is one -/
def Cm.OK (c : Cm) : Prop := (I64 c.cl ∧ I64 c.sq ∧ I64 c.ln ∧ I64 c.sb ∧ I64 c.mr) ∧ c.h.length = 32 ∧ Bytes c.h
theorem Cm.len {c : Cm} (h : c.h.length = 32) : c.cells.length = 37 := by simp [Cm.cells, h]
theorem size_commit : (Tryz.prog.info? 29).map (·.size) = some 37 := by kernel_rfl
section
variable {w : World} {g : Nat} {c : Cm} {T : TypeId}
end
end Go.Proofs.YtpnikilkcifncaaGreat
namespace Go.Gv
open Go Go.RowKit Go.Proofs.YtpnikilkcifncaaGreat
section
variable {w : World} {g : Nat} {c : Cm} {T : TypeId}
theorem Cs.c0 (h : Cs w g c.cells.toArray T) : w.cell? ⟨g, 0, none⟩ = some (.int .i64 c.cl) := by rw [h.cell]; rfl
theorem Cs.c1 (h : Cs w g c.cells.toArray T) : w.cell? ⟨g, 1, none⟩ = some (.int .i64 c.sq) := by rw [h.cell]; rfl
theorem Cs.far (h : Cs w g c.cells.toArray T) (hl : c.h.length = 32) (j : Nat) : w.cell? ⟨g, 34 + j, none⟩ = ([Value.int .i64 c.ln, .int .i64 c.sb, .int .i64 c.mr] : List Value)[j]? := by
 rw [h.cell]
 simp only [List.getElem?_toArray, Cm.cells]
 rw [List.getElem?_append_right (by simp; omega), List.getElem?_append_right (by simp [hl]; omega)]
 simp only [List.length_cons, List.length_nil, List.length_map, hl]
 congr 1
 omega
theorem Cs.c34 (h : Cs w g c.cells.toArray T) (hl : c.h.length = 32) : w.cell? ⟨g, 34, none⟩ = some (.int .i64 c.ln) := Cs.far h hl 0
theorem Cs.hash (h : Cs w g c.cells.toArray T) : ∀ j u, (c.h.map bv)[j]? = some u → w.cell? ⟨g, 2 + j, none⟩ = some u := by
 intro j u hu
 rw [h.cell]
 simp only [List.getElem?_toArray, Cm.cells]
 rw [List.getElem?_append_right (by simp), List.getElem?_append_left (by simpa using (List.getElem?_eq_some_iff.1 hu).1)]
 simpa using hu
theorem Cs.name (h : Cs w g c.cells.toArray T) : ∀ j u, ([Value.int .i64 c.cl, .int .i64 c.sq] : List Value)[j]? = some u → w.cell? ⟨g, 0 + j, none⟩ = some u := by
 intro j u hu
 rw [Nat.zero_add, h.cell]
 simp only [List.getElem?_toArray, Cm.cells]
 rw [List.getElem?_append_left (List.getElem?_eq_some_iff.1 hu).1]
 exact hu
theorem Cs.sig (h : Cs w g c.cells.toArray T) (hl : c.h.length = 32) : ∀ j u, ([Value.int .i64 c.sb, .int .i64 c.mr] : List Value)[j]? = some u → w.cell? ⟨g, 35 + j, none⟩ = some u := by
 intro j u hu
 have := Cs.far h hl (1 + j)
 rw [show 34 + (1 + j) = 35 + j by omega] at this
 rw [this, Nat.add_comm]
 exact hu
theorem Cs.whole {cs : List Value} (h : Cs w g cs.toArray T) : ∀ j u, cs[j]? = some u → w.cell? ⟨g, 0 + j, none⟩ = some u := by
 intro j u hu
 rw [Nat.zero_add, h.cell]
 simpa using hu
end
end Go.Gv
namespace Go.Proofs.YtpnikilkcifncaaGreat
open Go Go.RowKit Go.Gv
end Go.Proofs.YtpnikilkcifncaaGreat

/- Hashes as keys of maps; zeros. -/
namespace Go.Proofs.YtpnikilkcifncaaGreat
open Go Go.RowKit Go.Gv
open Go.Maps (Keyed)

/-- a hash -/
def HK (bs : List Int) : Prop := bs.length = 32 ∧ Bytes bs
end Go.Proofs.YtpnikilkcifncaaGreat

/- The kinds of things that messages are made of: their cells, what reads as one. -/
namespace Go.Proofs.YtpnikilkcifncaaGreat
open Go Go.RowKit Go.Gv

/-- a stamp, or an ack -/
structure St where
 rp : Int
 cl : Int
 sq : Int
 h : List Int
 tm : Nat
 sb : Int
 mr : Int
abbrev St.cells (x : St) : List Value := [.int .i64 x.rp, .int .i64 x.cl, .int .i64 x.sq] ++ (x.h.map bv ++ [.int .u64 (x.tm : Nat), .int .i64 x.sb, .int .i64 x.mr])
abbrev St.val (x : St) : Value := .agg x.cells.toArray
structure St.OK (x : St) : Prop where
 rp : I64 x.rp
 cl : I64 x.cl
 sq : I64 x.sq
 h : HK x.h
 tm : x.tm < U64
 sb : I64 x.sb
 mr : I64 x.mr
theorem St.len {x : St} (h : x.OK) : x.cells.length = 38 := by simp [St.cells, h.h.1]
theorem St.one (x : St) : ∀ u ∈ x.cells, u.oneCell' = true := by
 intro u hu
 simp only [St.cells, List.mem_append, List.mem_cons, List.not_mem_nil, or_false, List.mem_map] at hu
 rcases hu with (rfl | rfl | rfl) | ⟨y, -, rfl⟩ | rfl | rfl | rfl <;> rfl
def StR : Rep St := Rep.flat 38 (by decide) St.cells St.OK (fun a h => St.len h) (fun a _ => St.one a)
/-- a vote -/
structure Vt where
 kd : Int
 ep : Int
 rd : Int
 rp : Int
 h : List Int
 sb : Int
 mr : Int
abbrev Vt.cells (x : Vt) : List Value := [.int .i64 x.kd, .int .i64 x.ep, .int .i64 x.rd, .int .i64 x.rp] ++ (x.h.map bv ++ [.int .i64 x.sb, .int .i64 x.mr])
abbrev Vt.val (x : Vt) : Value := .agg x.cells.toArray
structure Vt.OK (x : Vt) : Prop where
 kd : I64 x.kd
 ep : I64 x.ep
 rd : I64 x.rd
 rp : I64 x.rp
 h : HK x.h
 sb : I64 x.sb
 mr : I64 x.mr
theorem Vt.len {x : Vt} (h : x.OK) : x.cells.length = 38 := by simp [Vt.cells, h.h.1]
theorem Vt.one (x : Vt) : ∀ u ∈ x.cells, u.oneCell' = true := by
 intro u hu
 simp only [Vt.cells, List.mem_append, List.mem_cons, List.not_mem_nil, or_false, List.mem_map] at hu
 rcases hu with (rfl | rfl | rfl | rfl) | ⟨y, -, rfl⟩ | rfl | rfl <;> rfl
def VtR : Rep Vt := Rep.flat 38 (by decide) Vt.cells Vt.OK (fun a h => Vt.len h) (fun a _ => Vt.one a)
/-- a denial -/
structure Dn where
 rp : Int
 ix : Int
 sb : Int
 mr : Int
abbrev Dn.cells (x : Dn) : List Value := [.int .i64 x.rp, .int .i64 x.ix, .int .i64 x.sb, .int .i64 x.mr]
abbrev Dn.val (x : Dn) : Value := .agg x.cells.toArray
structure Dn.OK (x : Dn) : Prop where
 rp : I64 x.rp
 ix : I64 x.ix
 sb : I64 x.sb
 mr : I64 x.mr
theorem Dn.len {x : Dn} (h : x.OK) : x.cells.length = 4 := by rfl
theorem Dn.one (x : Dn) : ∀ u ∈ x.cells, u.oneCell' = true := by
 intro u hu
 simp only [Dn.cells, List.mem_cons, List.not_mem_nil, or_false] at hu
 rcases hu with rfl | rfl | rfl | rfl <;> rfl
def DnR : Rep Dn := Rep.flat 4 (by decide) Dn.cells Dn.OK (fun a h => Dn.len h) (fun a _ => Dn.one a)
/-- an entry -/
structure En where
 cl : Int
 sq : Int
 h : List Int
 tm : Nat
abbrev En.cells (x : En) : List Value := [.int .i64 x.cl, .int .i64 x.sq] ++ (x.h.map bv ++ [.int .u64 (x.tm : Nat)])
abbrev En.val (x : En) : Value := .agg x.cells.toArray
structure En.OK (x : En) : Prop where
 cl : I64 x.cl
 sq : I64 x.sq
 h : HK x.h
 tm : x.tm < U64
theorem En.len {x : En} (h : x.OK) : x.cells.length = 35 := by simp [En.cells, h.h.1]
theorem En.one (x : En) : ∀ u ∈ x.cells, u.oneCell' = true := by
 intro u hu
 simp only [En.cells, List.mem_append, List.mem_cons, List.not_mem_nil, or_false, List.mem_map] at hu
 rcases hu with (rfl | rfl) | ⟨y, -, rfl⟩ | rfl <;> rfl
def EnR : Rep En := Rep.flat 35 (by decide) En.cells En.OK (fun a h => En.len h) (fun a _ => En.one a)

theorem RdR_keep {R : Nat → Prop} {N : Nat} {w w' : World} {v : Value} {bs : List Int} (h : RdR R N w v bs) (hk : ∀ p u, R p.block → w.cell? p = some u → w'.cell? p = some u) : RdR R N w' v bs :=
 ⟨⟨h.1.1, h.1.2.keepc fun h0 g hg p u hp hc => hk p u (hp ▸ h.2.1 h0 g hg) hc⟩, h.2⟩
theorem RdR_tight {R : Nat → Prop} {N : Nat} {w : World} {v : Value} {bs : List Int} (h : RdR R N w v bs) : RdR (fun k => R k ∧ k < w.heap.size) N w v bs :=
 ⟨h.1, fun h0 g hg => ⟨h.2.1 h0 g hg, h.1.2.lt (by decide) h0 hg⟩, h.2.2⟩
theorem Cm_one (c : Cm) : ∀ u ∈ c.cells, u.oneCell' = true := by
 intro u hu
 simp only [Cm.cells, List.mem_append, List.mem_cons, List.not_mem_nil, or_false, List.mem_map] at hu
 rcases hu with (rfl | rfl) | ⟨x, -, rfl⟩ | rfl | rfl | rfl <;> rfl
def CmR : Rep Cm := Rep.flat 37 (by decide) Cm.cells Cm.OK (fun a h => Cm.len h.2.1) (fun a _ => Cm_one a)
/-- a certificate -/
structure Ce where
 c : Cm
 l : List St
abbrev Ce.cells (x : Ce) (v_l : Value) : List Value := x.c.cells ++ [v_l]
def Ce.OK (x : Ce) : Prop := x.c.OK
def Ce.rd (R : Nat → Prop) (w : World) (cs : List Value) (x : Ce) : Prop := ∃ v_l, cs = x.cells v_l ∧ x.OK ∧ RdS StR R w v_l x.l
def CeR : Rep Ce where
 sz := 38
 pos := by decide
 rd := Ce.rd
 len h := by
  obtain ⟨v_l, rfl, hok, h0⟩ := h
  simp [Ce.cells, Cm.len hok.2.1]
 one h := by
  obtain ⟨v_l, rfl, hok, h0⟩ := h
  obtain ⟨_, _, e_l⟩ := h0.shape
  subst e_l
  intro u hu
  simp only [Ce.cells, List.mem_append, List.mem_cons, List.not_mem_nil, or_false, List.mem_map] at hu
  rcases hu with hu | rfl
  ·exact Cm_one _ _ hu
  ·rfl
 keep h hk := by
  obtain ⟨v_l, rfl, hok, h0⟩ := h
  exact ⟨_, rfl, hok, h0.keep hk⟩
 wid h hs := by
  obtain ⟨v_l, rfl, hok, h0⟩ := h
  exact ⟨_, rfl, hok, h0.widen hs⟩
 tight h := by
  obtain ⟨v_l, rfl, hok, h0⟩ := h
  exact ⟨_, rfl, hok, h0.tight⟩
/-- a promise -/
structure Pm where
 rp : Int
 ep : Int
 fl : Nat
 l : List Ce
 sb : Int
 mr : Int
abbrev Pm.cells (x : Pm) (v_l : Value) : List Value := [.int .i64 x.rp, .int .i64 x.ep, .int .u64 (x.fl : Nat), v_l, .int .i64 x.sb, .int .i64 x.mr]
def Pm.OK (x : Pm) : Prop := I64 x.rp ∧ I64 x.ep ∧ x.fl < U64 ∧ I64 x.sb ∧ I64 x.mr
def Pm.rd (R : Nat → Prop) (w : World) (cs : List Value) (x : Pm) : Prop := ∃ v_l, cs = x.cells v_l ∧ x.OK ∧ RdS CeR R w v_l x.l
def PmR : Rep Pm where
 sz := 6
 pos := by decide
 rd := Pm.rd
 len h := by
  obtain ⟨v_l, rfl, hok, h0⟩ := h
  rfl
 one h := by
  obtain ⟨v_l, rfl, hok, h0⟩ := h
  obtain ⟨_, _, e_l⟩ := h0.shape
  subst e_l
  intro u hu
  simp only [Pm.cells, List.mem_append, List.mem_cons, List.not_mem_nil, or_false, List.mem_map] at hu
  rcases hu with rfl | rfl | rfl | rfl | rfl | rfl <;> rfl
 keep h hk := by
  obtain ⟨v_l, rfl, hok, h0⟩ := h
  exact ⟨_, rfl, hok, h0.keep hk⟩
 wid h hs := by
  obtain ⟨v_l, rfl, hok, h0⟩ := h
  exact ⟨_, rfl, hok, h0.widen hs⟩
 tight h := by
  obtain ⟨v_l, rfl, hok, h0⟩ := h
  exact ⟨_, rfl, hok, h0.tight⟩
/-- an opening -/
structure Op where
 ix : Int
 pl : List Int
 nc : List Int
abbrev Op.cells (x : Op) (v_pl : Value) : List Value := [.int .i64 x.ix, v_pl] ++ x.nc.map bv
def Op.OK (x : Op) : Prop := I64 x.ix ∧ HK x.nc
def Op.rd (R : Nat → Prop) (w : World) (cs : List Value) (x : Op) : Prop := ∃ v_pl, cs = x.cells v_pl ∧ x.OK ∧ RdR R x.pl.length w v_pl x.pl
def OpR : Rep Op where
 sz := 34
 pos := by decide
 rd := Op.rd
 len h := by
  obtain ⟨v_pl, rfl, hok, h0⟩ := h
  simp [Op.cells, hok.2.1]
 one h := by
  obtain ⟨v_pl, rfl, hok, h0⟩ := h
  obtain ⟨_, _, e_pl⟩ := h0.shape
  subst e_pl
  intro u hu
  simp only [Op.cells, List.mem_append, List.mem_cons, List.not_mem_nil, or_false, List.mem_map] at hu
  rcases hu with (rfl | rfl) | ⟨y, -, rfl⟩ <;> rfl
 keep h hk := by
  obtain ⟨v_pl, rfl, hok, h0⟩ := h
  exact ⟨_, rfl, hok, RdR_keep h0 hk⟩
 wid h hs := by
  obtain ⟨v_pl, rfl, hok, h0⟩ := h
  exact ⟨_, rfl, hok, h0.widen hs (Nat.le_refl _)⟩
 tight h := by
  obtain ⟨v_pl, rfl, hok, h0⟩ := h
  exact ⟨_, rfl, hok, RdR_tight h0⟩
/-- a tombstone -/
structure Tb where
 ix : Int
 l : List Dn
abbrev Tb.cells (x : Tb) (v_l : Value) : List Value := [.int .i64 x.ix, v_l]
def Tb.OK (x : Tb) : Prop := I64 x.ix
def Tb.rd (R : Nat → Prop) (w : World) (cs : List Value) (x : Tb) : Prop := ∃ v_l, cs = x.cells v_l ∧ x.OK ∧ RdS DnR R w v_l x.l
def TbR : Rep Tb where
 sz := 2
 pos := by decide
 rd := Tb.rd
 len h := by
  obtain ⟨v_l, rfl, hok, h0⟩ := h
  rfl
 one h := by
  obtain ⟨v_l, rfl, hok, h0⟩ := h
  obtain ⟨_, _, e_l⟩ := h0.shape
  subst e_l
  intro u hu
  simp only [Tb.cells, List.mem_append, List.mem_cons, List.not_mem_nil, or_false, List.mem_map] at hu
  rcases hu with rfl | rfl <;> rfl
 keep h hk := by
  obtain ⟨v_l, rfl, hok, h0⟩ := h
  exact ⟨_, rfl, hok, h0.keep hk⟩
 wid h hs := by
  obtain ⟨v_l, rfl, hok, h0⟩ := h
  exact ⟨_, rfl, hok, h0.widen hs⟩
 tight h := by
  obtain ⟨v_l, rfl, hok, h0⟩ := h
  exact ⟨_, rfl, hok, h0.tight⟩
/-- a batch -/
structure Ba where
 ep : Int
 tm : Nat
 ps : List Pm
 os : List Op
 ts : List Tb
abbrev Ba.cells (x : Ba) (v_ps v_os v_ts : Value) : List Value := [.int .i64 x.ep, .int .u64 (x.tm : Nat), v_ps, v_os, v_ts]
def Ba.OK (x : Ba) : Prop := I64 x.ep ∧ x.tm < U64
def Ba.rd (R : Nat → Prop) (w : World) (cs : List Value) (x : Ba) : Prop := ∃ v_ps v_os v_ts, cs = x.cells v_ps v_os v_ts ∧ x.OK ∧ RdS PmR R w v_ps x.ps ∧ RdS OpR R w v_os x.os ∧ RdS TbR R w v_ts x.ts
def BaR : Rep Ba where
 sz := 5
 pos := by decide
 rd := Ba.rd
 len h := by
  obtain ⟨v_ps, v_os, v_ts, rfl, hok, h0, h1, h2⟩ := h
  rfl
 one h := by
  obtain ⟨v_ps, v_os, v_ts, rfl, hok, h0, h1, h2⟩ := h
  obtain ⟨_, _, e_ps⟩ := h0.shape
  obtain ⟨_, _, e_os⟩ := h1.shape
  obtain ⟨_, _, e_ts⟩ := h2.shape
  subst e_ps e_os e_ts
  intro u hu
  simp only [Ba.cells, List.mem_append, List.mem_cons, List.not_mem_nil, or_false, List.mem_map] at hu
  rcases hu with rfl | rfl | rfl | rfl | rfl <;> rfl
 keep h hk := by
  obtain ⟨v_ps, v_os, v_ts, rfl, hok, h0, h1, h2⟩ := h
  exact ⟨_, _, _, rfl, hok, h0.keep hk, h1.keep hk, h2.keep hk⟩
 wid h hs := by
  obtain ⟨v_ps, v_os, v_ts, rfl, hok, h0, h1, h2⟩ := h
  exact ⟨_, _, _, rfl, hok, h0.widen hs, h1.widen hs, h2.widen hs⟩
 tight h := by
  obtain ⟨v_ps, v_os, v_ts, rfl, hok, h0, h1, h2⟩ := h
  exact ⟨_, _, _, rfl, hok, h0.tight, h1.tight, h2.tight⟩
/-- a proposal -/
structure Pr where
 ep : Int
 rn : Int
 vl : Int
 rp : Int
 ba : Ba
 sb : Int
 mr : Int
abbrev Pr.cells (x : Pr) (v_ps v_os v_ts : Value) : List Value := [.int .i64 x.ep, .int .i64 x.rn, .int .i64 x.vl, .int .i64 x.rp, .int .i64 x.ba.ep, .int .u64 (x.ba.tm : Nat), v_ps, v_os, v_ts, .int .i64 x.sb, .int .i64 x.mr]
def Pr.OK (x : Pr) : Prop := I64 x.ep ∧ I64 x.rn ∧ I64 x.vl ∧ I64 x.rp ∧ x.ba.OK ∧ I64 x.sb ∧ I64 x.mr
def Pr.rd (R : Nat → Prop) (w : World) (cs : List Value) (x : Pr) : Prop := ∃ v_ps v_os v_ts, cs = x.cells v_ps v_os v_ts ∧ x.OK ∧ RdS PmR R w v_ps x.ba.ps ∧ RdS OpR R w v_os x.ba.os ∧ RdS TbR R w v_ts x.ba.ts
def PrR : Rep Pr where
 sz := 11
 pos := by decide
 rd := Pr.rd
 len h := by
  obtain ⟨v_ps, v_os, v_ts, rfl, hok, h0, h1, h2⟩ := h
  rfl
 one h := by
  obtain ⟨v_ps, v_os, v_ts, rfl, hok, h0, h1, h2⟩ := h
  obtain ⟨_, _, e_ps⟩ := h0.shape
  obtain ⟨_, _, e_os⟩ := h1.shape
  obtain ⟨_, _, e_ts⟩ := h2.shape
  subst e_ps e_os e_ts
  intro u hu
  simp only [Pr.cells, List.mem_append, List.mem_cons, List.not_mem_nil, or_false, List.mem_map] at hu
  rcases hu with rfl | rfl | rfl | rfl | rfl | rfl | rfl | rfl | rfl | rfl | rfl <;> rfl
 keep h hk := by
  obtain ⟨v_ps, v_os, v_ts, rfl, hok, h0, h1, h2⟩ := h
  exact ⟨_, _, _, rfl, hok, h0.keep hk, h1.keep hk, h2.keep hk⟩
 wid h hs := by
  obtain ⟨v_ps, v_os, v_ts, rfl, hok, h0, h1, h2⟩ := h
  exact ⟨_, _, _, rfl, hok, h0.widen hs, h1.widen hs, h2.widen hs⟩
 tight h := by
  obtain ⟨v_ps, v_os, v_ts, rfl, hok, h0, h1, h2⟩ := h
  exact ⟨_, _, _, rfl, hok, h0.tight, h1.tight, h2.tight⟩
end Go.Proofs.YtpnikilkcifncaaGreat

/- Copies and cuts of lists of things. -/
namespace Go.Proofs.YtpnikilkcifncaaGreat
open Go Go.RowKit Go.Gv

theorem info_St : (Tryz.prog.info? 32).map (fun i => (i.zero, i.size, i.bytes)) = some (some (.agg #[.int .i64 0, .int .i64 0, .int .i64 0, .int .u8 0, .int .u8 0, .int .u8 0, .int .u8 0, .int .u8 0, .int .u8 0, .int .u8 0, .int .u8 0, .int .u8 0, .int .u8 0, .int .u8 0, .int .u8 0, .int .u8 0, .int .u8 0, .int .u8 0, .int .u8 0, .int .u8 0, .int .u8 0, .int .u8 0, .int .u8 0, .int .u8 0, .int .u8 0, .int .u8 0, .int .u8 0, .int .u8 0, .int .u8 0, .int .u8 0, .int .u8 0, .int .u8 0, .int .u8 0, .int .u8 0, .int .u8 0, .int .u64 0, .int .i64 0, .int .i64 0]), 38, 80) := by kernel_rfl
theorem info_Dn : (Tryz.prog.info? 56).map (fun i => (i.zero, i.size, i.bytes)) = some (some (.agg #[.int .i64 0, .int .i64 0, .int .i64 0, .int .i64 0]), 4, 32) := by kernel_rfl
theorem info_Ce : (Tryz.prog.info? 35).map (fun i => (i.zero, i.size, i.bytes)) = some (some (.agg #[.int .i64 0, .int .i64 0, .int .u8 0, .int .u8 0, .int .u8 0, .int .u8 0, .int .u8 0, .int .u8 0, .int .u8 0, .int .u8 0, .int .u8 0, .int .u8 0, .int .u8 0, .int .u8 0, .int .u8 0, .int .u8 0, .int .u8 0, .int .u8 0, .int .u8 0, .int .u8 0, .int .u8 0, .int .u8 0, .int .u8 0, .int .u8 0, .int .u8 0, .int .u8 0, .int .u8 0, .int .u8 0, .int .u8 0, .int .u8 0, .int .u8 0, .int .u8 0, .int .u8 0, .int .u8 0, .int .i64 0, .int .i64 0, .int .i64 0, .slice none 0 0]), 38, 96) := by kernel_rfl
theorem info_Pm : (Tryz.prog.info? 40).map (fun i => (i.zero, i.size, i.bytes)) = some (some (.agg #[.int .i64 0, .int .i64 0, .int .u64 0, .slice none 0 0, .int .i64 0, .int .i64 0]), 6, 64) := by kernel_rfl
theorem info_Op : (Tryz.prog.info? 54).map (fun i => (i.zero, i.size, i.bytes)) = some (some (.agg #[.int .i64 0, .slice none 0 0, .int .u8 0, .int .u8 0, .int .u8 0, .int .u8 0, .int .u8 0, .int .u8 0, .int .u8 0, .int .u8 0, .int .u8 0, .int .u8 0, .int .u8 0, .int .u8 0, .int .u8 0, .int .u8 0, .int .u8 0, .int .u8 0, .int .u8 0, .int .u8 0, .int .u8 0, .int .u8 0, .int .u8 0, .int .u8 0, .int .u8 0, .int .u8 0, .int .u8 0, .int .u8 0, .int .u8 0, .int .u8 0, .int .u8 0, .int .u8 0, .int .u8 0, .int .u8 0]), 34, 64) := by kernel_rfl
theorem info_Tb : (Tryz.prog.info? 128).map (fun i => (i.zero, i.size, i.bytes)) = some (some (.agg #[.int .i64 0, .slice none 0 0]), 2, 32) := by kernel_rfl

/-- a function that copies a list of things; one that cuts it -/
def CopiesS {α : Type} (A : Rep α) (e : TypeId) (F : FuncId) : Prop := ∀ (R2 : Nat → Prop) (v : Value) (l : List α) (w : World), RdS A R2 w v l → (∀ k, R2 k → k < w.heap.size) → l.length ≤ 1000000 →
 Calls Tryz.prog F #[v] w fun e' w' => ∃ v', e' = .returned v' ∧ OwS A e (New w w') R2 w' v' l ∧ Mod (fun _ => False) w w'
def CutsS {α : Type} (A : Rep α) (e : TypeId) (F : FuncId) : Prop := ∀ (R2 : Nat → Prop) (v : Value) (l : List α) (n : Nat) (w : World), RdS A R2 w v l → (∀ k, R2 k → k < w.heap.size) → n ≤ 1000000 →
 Calls Tryz.prog F #[v, .int .i64 (n : Int)] w fun e' w' => ∃ v', e' = .returned v' ∧ OwS A e (New w w') R2 w' v' (l.take n) ∧ Mod (fun _ => False) w w'
set_option maxHeartbeats 2000000 in
theorem Copy_St : CopiesS StR 32 117 := by
 intro R2 v l w hs hB2 hl
 obtain ⟨ao, cap, rfl⟩ := hs.shape
 have HS := Lib.hid hs
 have HBT := Lib.hid hB2
 clear hs hB2
 go_enter Tryz.func117, Tryz.ntmps117
 go_upto_region 1 with (fail)
 have HM0 := hid (Mod.refl (fun _ => False) w)
 go_upto_region 1 with (fail)
 refine wp_region_U 5 [3, 4, 2] [0, 1, 2] (fun a0 HA0 => ?_)
 have oe0 := ev HA0 0 rfl
 refine QSeq.pure rfl _ (fun E => ex_move rfl (E.v oe0)) ?_
 refine QSeq.go fun act E => ?_
 refine qc_appS (A := StR) (e := 32) rfl (wanted_none rfl) rfl (.agg #[.int .i64 0, .int .i64 0, .int .i64 0, .int .u8 0, .int .u8 0, .int .u8 0, .int .u8 0, .int .u8 0, .int .u8 0, .int .u8 0, .int .u8 0, .int .u8 0, .int .u8 0, .int .u8 0, .int .u8 0, .int .u8 0, .int .u8 0, .int .u8 0, .int .u8 0, .int .u8 0, .int .u8 0, .int .u8 0, .int .u8 0, .int .u8 0, .int .u8 0, .int .u8 0, .int .u8 0, .int .u8 0, .int .u8 0, .int .u8 0, .int .u8 0, .int .u8 0, .int .u8 0, .int .u8 0, .int .u8 0, .int .u64 0, .int .i64 0, .int .i64 0]) 80 Tryz.underlying33 info_St (by rfl) (of_decide_eq_true (by kernel_rfl)) rfl (E.d 0 0) (OwS.nil _ _ (fun _ => False) (fun _ => False) _) (HS.out) (fun _ _ h => h) (by simp only [List.length_nil]; omega) (by simp only [List.length_nil]; rw [maxLen_val]; omega) ?_
 intro ao0 cap0 u1_1 qout hm
 have Hx1 := hid (qout.widen (R' := (fun k => (New w u1_1 k))) (E' := (fun k => (R2 k))) (fun _ h => h.elim (fun h => h.elim) (fun h => h)) (by intro k h1; rcases h1 with h1 | h1 <;> first | omega | exact h1.elim | exact h1))
 have zu1_1 := hm.size
 have Cx2 := hid (show Mod (fun _ => False) w u1_1 from hm)
 clear hm
 clear act E qout
 refine QSeq.pure rfl _ (fun E => ex_assign rfl (E.d 1 0)) ?_
 refine QSeq.nil (t' := [_, _, _]) rfl ?_
 obtain rfl := HA0.out
 clear HA0 oe0
 simp only [pz, Act.put, sIB, sCZ, sCS]
 go_wp2
 go_ret
 have hq := Hx1.out
 exact ⟨_, rfl, hq.widen (by intro k h; omega) (by intro k h; exact h), (HM0.out.trans Cx2.out (fun _ _ h => h.elim))⟩
set_option maxHeartbeats 2000000 in
theorem Copy_Dn : CopiesS DnR 56 118 := by
 intro R2 v l w hs hB2 hl
 obtain ⟨ao, cap, rfl⟩ := hs.shape
 have HS := Lib.hid hs
 have HBT := Lib.hid hB2
 clear hs hB2
 go_enter Tryz.func118, Tryz.ntmps118
 go_upto_region 1 with (fail)
 have HM0 := hid (Mod.refl (fun _ => False) w)
 go_upto_region 1 with (fail)
 refine wp_region_U 5 [3, 4, 2] [0, 1, 2] (fun a0 HA0 => ?_)
 have oe0 := ev HA0 0 rfl
 refine QSeq.pure rfl _ (fun E => ex_move rfl (E.v oe0)) ?_
 refine QSeq.go fun act E => ?_
 refine qc_appS (A := DnR) (e := 56) rfl (wanted_none rfl) rfl (.agg #[.int .i64 0, .int .i64 0, .int .i64 0, .int .i64 0]) 32 Tryz.underlying126 info_Dn (by rfl) (of_decide_eq_true (by kernel_rfl)) rfl (E.d 0 0) (OwS.nil _ _ (fun _ => False) (fun _ => False) _) (HS.out) (fun _ _ h => h) (by simp only [List.length_nil]; omega) (by simp only [List.length_nil]; rw [maxLen_val]; omega) ?_
 intro ao0 cap0 u1_1 qout hm
 have Hx1 := hid (qout.widen (R' := (fun k => (New w u1_1 k))) (E' := (fun k => (R2 k))) (fun _ h => h.elim (fun h => h.elim) (fun h => h)) (by intro k h1; rcases h1 with h1 | h1 <;> first | omega | exact h1.elim | exact h1))
 have zu1_1 := hm.size
 have Cx2 := hid (show Mod (fun _ => False) w u1_1 from hm)
 clear hm
 clear act E qout
 refine QSeq.pure rfl _ (fun E => ex_assign rfl (E.d 1 0)) ?_
 refine QSeq.nil (t' := [_, _, _]) rfl ?_
 obtain rfl := HA0.out
 clear HA0 oe0
 simp only [pz, Act.put, sIB, sCZ, sCS]
 go_wp2
 go_ret
 have hq := Hx1.out
 exact ⟨_, rfl, hq.widen (by intro k h; omega) (by intro k h; exact h), (HM0.out.trans Cx2.out (fun _ _ h => h.elim))⟩
set_option maxHeartbeats 2000000 in
theorem Cut_St : CutsS StR 32 74 := by
 intro R2 v l n w hs hB2 hn
 obtain ⟨css, k1, k2, ⟨k3, ao, cap, rfl, hlc, hcm, k5, k6⟩, k7⟩ := id hs
 clear k1 k2 k3 k5 k6 k7
 rw [maxLen_val] at hcm
 have HS := Lib.hid hs
 have HBT := Lib.hid hB2
 clear hs hB2
 clear css
 go_enter Tryz.func74, Tryz.ntmps74
 go_upto_region 1 with (fail)
 have HM0 := hid (Mod.refl (fun _ => False) w)
 go_upto_region 1 with (fail)
 refine wp_region_U 12 [5, 6, 7, 8, 9, 10, 11, 4] [0, 1, 2, 3, 4, 5, 6, 7] (fun a0 HA0 => ?_)
 have oe0 := ev HA0 0 rfl
 have oe1 := ev HA0 1 rfl
 refine QSeq.pure rfl _ (fun E => ex_move rfl (E.v oe0)) ?_
 refine QSeq.pure rfl _ (fun E => ex_move rfl (E.v oe0)) ?_
 refine QSeq.pure rfl (.int .i64 l.length) (fun E => ex_lenS rfl (E.d 1 0) Tryz.underlying33) ?_
 refine QSeq.pure rfl _ (fun E => ex_move rfl (E.v oe1)) ?_
 refine QSeq.pure rfl (.int .i64 ((min l.length n : Nat) : Int)) (fun E => ex_min (r := ((min l.length n : Nat) : Int)) rfl (E.d 2 1) (E.d 3 0) (by split <;> omega)) ?_
 refine QSeq.pure rfl (.slice ao (min l.length n) cap) (fun E => ex_sliceTo (i := min l.length n) (s := 38) rfl Tryz.underlying33 (by kernel_rfl) (E.d 0 4) (E.d 4 0) (by omega)) ?_
 refine QSeq.call rfl rfl Tryz.func117 (Copy_St _ _ (l.take (min l.length n)) _ (HS.out.upto (min l.length n) (by omega)) (by intro k h1; have hb := HBT.out k h1; omega) (by simp; omega)) (fun E => args1 (E.d 5 0)) ?_
 rintro e u1_6 ⟨v', rfl, qout, hm⟩
 refine ⟨_, rfl, ?_⟩
 have Hx1 := hid (qout.widen (R' := (fun k => (New w u1_6 k))) (E' := (fun k => (R2 k))) (fun _ h => h) (fun _ h => h))
 have zu1_6 := hm.size
 have Cx2 := hid (show Mod (fun _ => False) w u1_6 from hm)
 clear hm
 clear qout
 refine QSeq.pure rfl _ (fun E => ex_assign rfl (E.d 6 0)) ?_
 refine QSeq.nil (t' := [_, _, _, _, _, _, _, _]) rfl ?_
 obtain rfl := HA0.out
 clear HA0 oe0 oe1
 simp only [pz, Act.put, sIB, sCZ, sCS]
 go_wp2
 go_ret
 have hq := Hx1.out
 rw [show l.take (min l.length n) = l.take n by rw [Nat.min_comm, ← List.take_take, List.take_length]] at hq
 exact ⟨v', rfl, hq.widen (by intro k h; omega) (fun _ h => h), (HM0.out.trans Cx2.out (fun _ _ h => h.elim))⟩
set_option maxHeartbeats 2000000 in
theorem Cut_Dn : CutsS DnR 56 75 := by
 intro R2 v l n w hs hB2 hn
 obtain ⟨css, k1, k2, ⟨k3, ao, cap, rfl, hlc, hcm, k5, k6⟩, k7⟩ := id hs
 clear k1 k2 k3 k5 k6 k7
 rw [maxLen_val] at hcm
 have HS := Lib.hid hs
 have HBT := Lib.hid hB2
 clear hs hB2
 clear css
 go_enter Tryz.func75, Tryz.ntmps75
 go_upto_region 1 with (fail)
 have HM0 := hid (Mod.refl (fun _ => False) w)
 go_upto_region 1 with (fail)
 refine wp_region_U 12 [5, 6, 7, 8, 9, 10, 11, 4] [0, 1, 2, 3, 4, 5, 6, 7] (fun a0 HA0 => ?_)
 have oe0 := ev HA0 0 rfl
 have oe1 := ev HA0 1 rfl
 refine QSeq.pure rfl _ (fun E => ex_move rfl (E.v oe0)) ?_
 refine QSeq.pure rfl _ (fun E => ex_move rfl (E.v oe0)) ?_
 refine QSeq.pure rfl (.int .i64 l.length) (fun E => ex_lenS rfl (E.d 1 0) Tryz.underlying126) ?_
 refine QSeq.pure rfl _ (fun E => ex_move rfl (E.v oe1)) ?_
 refine QSeq.pure rfl (.int .i64 ((min l.length n : Nat) : Int)) (fun E => ex_min (r := ((min l.length n : Nat) : Int)) rfl (E.d 2 1) (E.d 3 0) (by split <;> omega)) ?_
 refine QSeq.pure rfl (.slice ao (min l.length n) cap) (fun E => ex_sliceTo (i := min l.length n) (s := 4) rfl Tryz.underlying126 (by kernel_rfl) (E.d 0 4) (E.d 4 0) (by omega)) ?_
 refine QSeq.call rfl rfl Tryz.func118 (Copy_Dn _ _ (l.take (min l.length n)) _ (HS.out.upto (min l.length n) (by omega)) (by intro k h1; have hb := HBT.out k h1; omega) (by simp; omega)) (fun E => args1 (E.d 5 0)) ?_
 rintro e u1_6 ⟨v', rfl, qout, hm⟩
 refine ⟨_, rfl, ?_⟩
 have Hx1 := hid (qout.widen (R' := (fun k => (New w u1_6 k))) (E' := (fun k => (R2 k))) (fun _ h => h) (fun _ h => h))
 have zu1_6 := hm.size
 have Cx2 := hid (show Mod (fun _ => False) w u1_6 from hm)
 clear hm
 clear qout
 refine QSeq.pure rfl _ (fun E => ex_assign rfl (E.d 6 0)) ?_
 refine QSeq.nil (t' := [_, _, _, _, _, _, _, _]) rfl ?_
 obtain rfl := HA0.out
 clear HA0 oe0 oe1
 simp only [pz, Act.put, sIB, sCZ, sCS]
 go_wp2
 go_ret
 have hq := Hx1.out
 rw [show l.take (min l.length n) = l.take n by rw [Nat.min_comm, ← List.take_take, List.take_length]] at hq
 exact ⟨v', rfl, hq.widen (by intro k h; omega) (fun _ h => h), (HM0.out.trans Cx2.out (fun _ _ h => h.elim))⟩
end Go.Proofs.YtpnikilkcifncaaGreat

/- Certificates and promises that are cut. -/
namespace Go.Proofs.YtpnikilkcifncaaGreat
open Go Go.RowKit Go.Gv


/-- what the laws leave of a certificate, a promise -/
def cutCe (x : Ce) : Ce := { x with l := x.l.take 5 }
def cutPm (x : Pm) : Pm := { x with l := (x.l.take 3).map cutCe }
/-- a function that gives a thing anew, cut -/
def CutR {α : Type} (A : Rep α) (F : FuncId) (f : α → α) : Prop := ∀ (R2 : Nat → Prop) (x : α) (cs : List Value) (w : World), A.rd R2 w cs x → (∀ k, R2 k → k < w.heap.size) →
 Calls Tryz.prog F #[.agg cs.toArray] w fun e w' => ∃ cs', e = .returned (.agg cs'.toArray) ∧ A.rd (fun k => R2 k ∨ New w w' k) w' cs' (f x) ∧ Mod (fun _ => False) w w'
theorem size_ce : (Tryz.prog.info? 35).map (·.size) = some (37 + 1) := by kernel_rfl
theorem one_ce (c : Cm) (v : Value) (h : v.oneCell' = true) : ∀ u ∈ c.cells ++ [v], u.oneCell' = true := by
 intro u hu
 rw [List.mem_append] at hu
 rcases hu with hu | hu
 ·exact Cm_one _ _ hu
 ·simp at hu; subst hu; exact h
theorem take_two {α : Type} {l : List α} {k n : Nat} (hk : k ≤ n) (h : k = n ∨ l.length ≤ k) : l.take k = l.take n := by
 rcases h with rfl | h
 ·rfl
 ·rw [List.take_of_length_le h, List.take_of_length_le (by omega)]
theorem lay_l (c : Cm) (u v : Value) (hl : c.h.length = 32) : lay (c.cells ++ [u]).toArray 37 [v] = (c.cells ++ [v]).toArray := by
 have h37 := Cm.len hl
 simp [lay, h37]
set_option maxHeartbeats 4000000 in
theorem LCert_c : CutR CeR 37 cutCe := by
 intro R2 x cs w hx hB2
 obtain ⟨v_l, rfl, hok, hs0⟩ := hx
 obtain ⟨ao, cap, rfl⟩ := hs0.shape
 have HS := Lib.hid hs0
 have HBT := Lib.hid hB2
 have HOK := Lib.hid hok
 clear hs0 hB2 hok
 go_enter Tryz.func37, Tryz.ntmps37
 go_upto_region 1 with (fail)
 obtain ⟨w1, hw1⟩ : ∃ zz, zz = ((w.alloc (.cells (x.cells (.slice ao x.l.length cap) : List Value).toArray 35)).alloc (.cells #[.int .i64 0, .int .i64 0, .int .u8 0, .int .u8 0, .int .u8 0, .int .u8 0, .int .u8 0, .int .u8 0, .int .u8 0, .int .u8 0, .int .u8 0, .int .u8 0, .int .u8 0, .int .u8 0, .int .u8 0, .int .u8 0, .int .u8 0, .int .u8 0, .int .u8 0, .int .u8 0, .int .u8 0, .int .u8 0, .int .u8 0, .int .u8 0, .int .u8 0, .int .u8 0, .int .u8 0, .int .u8 0, .int .u8 0, .int .u8 0, .int .u8 0, .int .u8 0, .int .u8 0, .int .u8 0, .int .i64 0, .int .i64 0, .int .i64 0, .slice none 0 0] 35)) := ⟨_, rfl⟩
 change Code.wp _ _ _ _ ((w.alloc (.cells (x.cells (.slice ao x.l.length cap) : List Value).toArray 35)).alloc (.cells #[.int .i64 0, .int .i64 0, .int .u8 0, .int .u8 0, .int .u8 0, .int .u8 0, .int .u8 0, .int .u8 0, .int .u8 0, .int .u8 0, .int .u8 0, .int .u8 0, .int .u8 0, .int .u8 0, .int .u8 0, .int .u8 0, .int .u8 0, .int .u8 0, .int .u8 0, .int .u8 0, .int .u8 0, .int .u8 0, .int .u8 0, .int .u8 0, .int .u8 0, .int .u8 0, .int .u8 0, .int .u8 0, .int .u8 0, .int .u8 0, .int .u8 0, .int .u8 0, .int .u8 0, .int .u8 0, .int .i64 0, .int .i64 0, .int .i64 0, .slice none 0 0] 35))
 rw [← hw1]
 have HB1 := hid (show Cs w1 (w.heap.size) (x.cells (.slice ao x.l.length cap) : List Value).toArray 35 by rw [hw1]; exact (Cs.new _ _ _).alloc _)
 have HB2 := hid (show Cs w1 (w.heap.size + 1) #[.int .i64 0, .int .i64 0, .int .u8 0, .int .u8 0, .int .u8 0, .int .u8 0, .int .u8 0, .int .u8 0, .int .u8 0, .int .u8 0, .int .u8 0, .int .u8 0, .int .u8 0, .int .u8 0, .int .u8 0, .int .u8 0, .int .u8 0, .int .u8 0, .int .u8 0, .int .u8 0, .int .u8 0, .int .u8 0, .int .u8 0, .int .u8 0, .int .u8 0, .int .u8 0, .int .u8 0, .int .u8 0, .int .u8 0, .int .u8 0, .int .u8 0, .int .u8 0, .int .u8 0, .int .u8 0, .int .i64 0, .int .i64 0, .int .i64 0, .slice none 0 0] 35 by rw [hw1]; exact Cs_newN _ _ _ (by simp))
 have hm : Mod (fun _ => False) w w1 := by rw [hw1]; exact ((Mod.refl _ _).alloc _).alloc _
 have HM0 := hid (show Mod (fun _ => False) w w1 from hm.mono (fun _ _ h => h.elim))
 have hs1 : w1.heap.size = w.heap.size + 2 := by rw [hw1]; simp
 have Hx1 := hid (HS.out.mod hm (fun _ _ h => h))
 clear HS
 clear hw1 hm
 go_upto_region 1 with (fail)
 refine wp_region_U 8 [3, 4, 5, 6, 12] [0, 1, 2, 3, 4] (fun a0 HA0 => ?_)
 have oe1 := ev HA0 1 rfl
 refine QSeq.pure rfl (.pointer (some ⟨w.heap.size, 37, none⟩)) (fun E => ex_field rfl Tryz.underlying35 rfl (by kernel_rfl) (E.v oe1)) ?_
 refine QSeq.pure rfl _ (fun E => ex_load1 rfl Tryz.underlying33 rfl (E.d 0 0) (Cs.post1 (pre := []) (mid := x.c.cells) (post := [.slice ao x.l.length cap]) (m := 37) (k := 0) HB1.out (Cm.len HOK.out.2.1) rfl rfl)) ?_
 refine QSeq.call rfl rfl Tryz.func74 (Cut_St _ _ x.l 5 _ Hx1.out (by intro k h1; have hb := HBT.out k h1; omega) (by omega)) (fun E => args2 (E.d 1 0) rfl) ?_
 rintro e u1_2 ⟨v', rfl, qout, hm⟩
 obtain ⟨ao', cap', rfl⟩ := qout.shape
 refine ⟨_, rfl, ?_⟩
 have Hx2 := hid (qout.widen (R' := (fun k => (New w1 u1_2 k))) (E' := (fun k => (R2 k))) (fun _ h => h) (fun _ h => h))
 have zu1_2 := hm.size
 have Cx3 := hid (show Mod (fun _ => False) w1 u1_2 from hm)
 clear hm
 clear qout
 refine QSeq.pure rfl (.pointer (some ⟨w.heap.size, 37, none⟩)) (fun E => ex_field rfl Tryz.underlying35 rfl (by kernel_rfl) (E.v oe1)) ?_
 refine QSeq.go fun act E => ?_
 refine qc_store rfl (wanted_none rfl) rfl (HB1.out.mod Cx3.out (fun h => h)) (off := 37) (vs := [Value.slice ao' (x.l.take 5).length cap']) (by kernel_rfl) one1 (by simp [Ce.cells, Cm.len HOK.out.2.1]) (E.d 3 0) (ec (E.d 2 1)) ?_
 intro u1_4 qc0 hm
 have qB1 := qc0.eqv (b := ((x.c.cells ++ [Value.slice ao' (x.l.take 5).length cap']) : List Value).toArray) (lay_l x.c _ _ HOK.out.2.1)
 clear qc0
 have Hx4 := hid qB1
 have zu1_4 := hm.size
 have HMu1_4 := hid hm
 have Cx5 := hid (Mod.goS (S' := (fun k => (k = w.heap.size))) Cx3.out hm (fun _ h => h.elim) (by intro k h0 h2; exact h2))
 clear hm Cx3
 clear act E qB1 HB1
 have Hx6 := hid (Hx2.out.mod HMu1_4.out (by intro k h1 h2; omega) (sB HBT))
 clear Hx2 HMu1_4
 refine QSeq.nil (t' := [_, _, _, _, _]) rfl ?_
 obtain rfl := HA0.out
 clear HA0 oe1
 simp only [pz, Act.put, sIB, sCZ, sCS, List.set_nil]
 go_upto_region 2 with (fail)
 refine wp_region_U 8 [7, 9] [0, 1] (fun a0 HA0 => ?_)
 have oe1 := ev HA0 1 rfl
 have oe2 := ev HA0 2 rfl
 refine QSeq.pure rfl _ (fun E => ex_loadA rfl Tryz.underlying35 rfl (off := 0) (cs := x.c.cells ++ [Value.slice ao' (x.l.take 5).length cap']) (by rw [List.length_append, Cm.len HOK.out.2.1]; exact size_ce) (E.v oe1) (Cs.whole Hx4.out)) ?_
 refine QSeq.go fun act E => ?_
 refine qc_store rfl (wanted_none rfl) rfl (HB2.out.mod Cx5.out (by intro h2; omega)) (off := 0) (vs := (x.c.cells ++ [Value.slice ao' (x.l.take 5).length cap'])) (by rw [List.length_append, Cm.len HOK.out.2.1]; exact size_ce) (one_ce _ _ rfl) (by simp [Cm.len HOK.out.2.1]) (E.v oe2) (ec (E.d 0 0)) ?_
 intro u2_1 qc0 hm
 have qB2 := qc0.eqv (b := ((x.c.cells ++ [Value.slice ao' (x.l.take 5).length cap']) : List Value).toArray) (lay_whole _ _ (by simp [Cm.len HOK.out.2.1]))
 clear qc0
 have Hx7 := hid qB2
 have zu2_1 := hm.size
 have Cx8 := hid (show Mod (fun k => (k = w.heap.size + 1)) u1_4 u2_1 from hm)
 clear hm
 clear act E qB2 HB2
 refine QSeq.nil (t' := [_, _]) rfl ?_
 obtain rfl := HA0.out
 clear HA0 oe1 oe2
 simp only [pz, Act.put, sIB, sCZ, sCS, List.set_nil]
 go_wp2
 have hq := (Hx6.out.mod Cx8.out (by intro k h1 h2; omega) (sB HBT))
 refine bodyPost_ret (results_cellA rfl _ _ (w.heap.size + 1) (x.c.cells ++ [Value.slice ao' (x.l.take 5).length cap']) rfl (fun k u hu => by rw [Hx7.out.cell]; simpa using hu) Tryz.underlying35 rfl (by rw [List.length_append, Cm.len HOK.out.2.1]; exact size_ce)) rfl ⟨_, rfl, ⟨_, rfl, HOK.out, hq.rd.widen ?_⟩, ((HM0.out.trans Cx5.out (by intro k h1 h2; omega)).trans Cx8.out (by intro k h1 h2; omega))⟩
 intro k h
 (try dsimp only at h ⊢)
 rcases h with h | h
 ·right; omega
 ·exact Or.inl h
set_option maxHeartbeats 4000000 in
theorem LPromise_c : CutR PmR 38 cutPm := by
 intro R2 x cs w hx hB2
 obtain ⟨v_l, rfl, hok, hs0⟩ := hx
 obtain ⟨ao, cap, rfl⟩ := hs0.shape
 have HS := Lib.hid hs0
 have HBT := Lib.hid hB2
 have HOK := Lib.hid hok
 clear hs0 hB2 hok
 go_enter Tryz.func38, Tryz.ntmps38
 go_upto_region 1 with (fail)
 obtain ⟨w1, hw1⟩ : ∃ zz, zz = ((w.alloc (.cells (x.cells (.slice ao x.l.length cap) : List Value).toArray 40)).alloc (.cells #[.int .i64 0, .int .i64 0, .int .u64 0, .slice none 0 0, .int .i64 0, .int .i64 0] 40)) := ⟨_, rfl⟩
 change Code.wp _ _ _ _ ((w.alloc (.cells (x.cells (.slice ao x.l.length cap) : List Value).toArray 40)).alloc (.cells #[.int .i64 0, .int .i64 0, .int .u64 0, .slice none 0 0, .int .i64 0, .int .i64 0] 40))
 rw [← hw1]
 have HB1 := hid (show Cs w1 (w.heap.size) (x.cells (.slice ao x.l.length cap) : List Value).toArray 40 by rw [hw1]; exact (Cs.new _ _ _).alloc _)
 have HB2 := hid (show Cs w1 (w.heap.size + 1) #[.int .i64 0, .int .i64 0, .int .u64 0, .slice none 0 0, .int .i64 0, .int .i64 0] 40 by rw [hw1]; exact Cs_newN _ _ _ (by simp))
 have hm : Mod (fun _ => False) w w1 := by rw [hw1]; exact ((Mod.refl _ _).alloc _).alloc _
 have HM0 := hid (show Mod (fun _ => False) w w1 from hm.mono (fun _ _ h => h.elim))
 have hs1 : w1.heap.size = w.heap.size + 2 := by rw [hw1]; simp
 have Hx1 := hid (HS.out.mod hm (fun _ _ h => h))
 clear HS
 clear hw1 hm
 go_wp2
 go_loopw [3, 4] (fun ta ti wr => ∃ k : Nat, ti = .int .i64 (k : Int) ∧ k ≤ x.l.length ∧ k ≤ 3 ∧ w1.heap.size ≤ wr.heap.size ∧ OwS CeR 35 (fun b => w1.heap.size ≤ b ∧ b < wr.heap.size) (fun b => R2 b ∨ (w1.heap.size ≤ b ∧ b < wr.heap.size)) wr ta ((x.l.take k).map cutCe) ∧ RdS CeR R2 wr (.slice ao x.l.length cap) x.l ∧ Cs wr (w.heap.size) (x.cells (.slice ao x.l.length cap) : List Value).toArray 40 ∧ Cs wr (w.heap.size + 1) #[.int .i64 0, .int .i64 0, .int .u64 0, .slice none 0 0, .int .i64 0, .int .i64 0] 40 ∧ Mod (fun _ => False) w wr) (fun _ ti _ => x.l.length - (intOf ti).toNat)
 case atStart => exact ⟨0, rfl, Nat.zero_le _, Nat.zero_le _, Nat.le_refl _, OwS.nil _ _ _ _ _, Hx1.out, HB1.out, HB2.out, HM0.out⟩
 case round =>
  obtain ⟨k1, rfl, hk, hkN, hz, ha, hk_0, hk_1, hk_2, hm⟩ := hrel
  obtain ⟨wl1, rfl⟩ : ∃ x, x = wr := ⟨_, rfl⟩
  obtain ⟨aol1, capl1, rfl⟩ := ha.shape
  have HAL1 := Lib.hid ha
  have HKL1_0 := Lib.hid hk_0
  have HKL1_1 := Lib.hid hk_1
  have HKL1_2 := Lib.hid hk_2
  have HML1 := Lib.hid hm
  clear ha hm hk_0 hk_1 hk_2 Hx1 HB1 HB2 HM0
  by_cases hlt1 : k1 < x.l.length ∧ k1 < 3
  ·obtain ⟨hlt1, hlN1⟩ := hlt1
   go_upto_region 3 with (fail)
   refine wp_region_U 28 [5, 6, 7, 8, 9, 10, 11, 12, 13] [0, 1, 2, 3, 4, 5, 6, 7, 8] (fun a0 HA0 => ?_)
   have oe1 := ev HA0 1 rfl
   have oe4 := ev HA0 4 rfl
   refine QSeq.pure rfl _ (fun E => ex_move rfl (E.v oe4)) ?_
   refine QSeq.pure rfl (.pointer (some ⟨w.heap.size, 3, none⟩)) (fun E => ex_field rfl Tryz.underlying40 rfl (by kernel_rfl) (E.v oe1)) ?_
   refine QSeq.pure rfl _ (fun E => ex_load1 rfl Tryz.underlying38 rfl (E.d 1 0) (Cs.lit1 HKL1_1.out rfl)) ?_
   refine QSeq.pure rfl (.int .i64 x.l.length) (fun E => ex_lenS rfl (E.d 2 0) Tryz.underlying38) ?_
   refine QSeq.pure rfl (.bool true) (fun E => ex_binE rfl (E.d 0 3) (E.d 3 0) (guard_ints _ _ _ _ _ _) (run_lss_i _ _ _ Tryz.underlying3) (congrArg Value.bool (decide_eq_true (by omega)))) ?_
   refine QSeq.pure rfl _ (fun E => ex_move rfl (E.d 4 0)) ?_
   refine QSeq.pureG rfl (.int .i64 ((k1 : Nat) : Int)) (fun E => ((wanted_of rfl rfl (E.sz 10 (by decide)) (E.d 5 0)).trans rfl)) (fun E => ex_move rfl (E.v oe4)) ?_
   refine QSeq.pureG rfl (.bool true) (fun E => ((wanted_of rfl rfl (E.sz 10 (by decide)) (E.d 5 1)).trans rfl)) (fun E => ex_binE rfl (E.d 6 0) rfl (guard_ints _ _ _ _ _ _) (run_lss_i _ _ _ Tryz.underlying3) (congrArg Value.bool (decide_eq_true (by omega)))) ?_
   refine QSeq.pure rfl (.bool true) (fun E => ex_pick rfl (E.d 5 2) (E.d 7 0) rfl) ?_
   refine QSeq.nil (t' := [_, _, _, _, _, _, _, _, _]) rfl ?_
   obtain rfl := HA0.out
   clear HA0 oe1 oe4
   simp only [pz, Act.put, sIB, sCZ, sCS]
   have hat := HKL1_0.out.at hlt1
   obtain ⟨g1, o1, cs1, eao, hrg, hrd, hcs⟩ := hat
   subst eao
   have hcl : cs1.length = 38 := CeR.len hrd
   have HCL1 := Lib.hid hcl
   have HAT1 := hid (show CellsAt R2 wl1 g1 (o1 + k1 * 38) cs1 from ⟨hrg, hcs⟩)
   have HRD1 := Lib.hid hrd
   have HOC1 := hid (CeR.one hrd)
   clear hcl hcs hrd hrg
   have HE1 : Hid (((x.l.take k1).map cutCe) ++ [cutCe x.l[k1]] = (x.l.take (k1 + 1)).map cutCe) := hid (by rw [List.take_succ_eq_append_getElem hlt1, List.map_append]; rfl)
   have HLN1 : Hid (((x.l.take k1).map cutCe).length = k1) := hid (by rw [List.length_map, List.length_take]; omega)
   go_upto_region 5 with (fail)
   refine wp_region_U 28 [16, 17, 18, 19, 20, 21, 22, 23, 24, 3] [0, 1, 2, 3, 4, 5, 6, 7, 8, 9] (fun a0 HA0 => ?_)
   have oe1 := ev HA0 1 rfl
   have oe3 := ev HA0 3 rfl
   have oe4 := ev HA0 4 rfl
   refine QSeq.pure rfl _ (fun E => ex_move rfl (E.y 9 oe3)) ?_
   refine QSeq.pure rfl (.pointer (some ⟨w.heap.size, 3, none⟩)) (fun E => ex_field rfl Tryz.underlying40 rfl (by kernel_rfl) (E.v oe1)) ?_
   refine QSeq.pure rfl _ (fun E => ex_load1 rfl Tryz.underlying38 rfl (E.d 1 0) (Cs.lit1 HKL1_1.out rfl)) ?_
   refine QSeq.pure rfl _ (fun E => ex_move rfl (E.v oe4)) ?_
   refine QSeq.pure rfl (.pointer (some ⟨g1, o1 + k1 * 38, none⟩)) (fun E => ex_idxS (i := k1) (s := 38) rfl Tryz.underlying38 (by kernel_rfl) (E.d 2 1) (E.d 3 0) hlt1) ?_
   refine QSeq.pure rfl _ (fun E => ex_loadA rfl Tryz.underlying35 rfl (off := o1 + k1 * 38) (cs := cs1) (by rw [HCL1.out]; kernel_rfl) (E.d 4 0) (fun j u hu => (HAT1.out).2 j u hu)) ?_
   refine QSeq.call rfl rfl Tryz.func37 (LCert_c _ _ _ _ HRD1.out (by intro k h1; have hb := HBT.out k h1; omega)) (fun E => args1 (E.d 5 0)) ?_
   rintro e u5_6 ⟨cs', rfl, qel, hm⟩
   refine ⟨_, rfl, ?_⟩
   have Hx2 := hid (qel.widen (R' := (fun k => (R2 k) ∨ (New wl1 u5_6 k))) (fun _ h => h))
   have zu5_6 := hm.size
   have Cx3 := hid (show Mod (fun _ => False) wl1 u5_6 from hm)
   clear hm
   clear qel HRD1
   refine QSeq.go fun act E => ?_
   refine qc_buildS (e := 35) (cs := cs') (zc := [.int .i64 0, .int .i64 0, .int .u8 0, .int .u8 0, .int .u8 0, .int .u8 0, .int .u8 0, .int .u8 0, .int .u8 0, .int .u8 0, .int .u8 0, .int .u8 0, .int .u8 0, .int .u8 0, .int .u8 0, .int .u8 0, .int .u8 0, .int .u8 0, .int .u8 0, .int .u8 0, .int .u8 0, .int .u8 0, .int .u8 0, .int .u8 0, .int .u8 0, .int .u8 0, .int .u8 0, .int .u8 0, .int .u8 0, .int .u8 0, .int .u8 0, .int .u8 0, .int .u8 0, .int .u8 0, .int .i64 0, .int .i64 0, .int .i64 0, .slice none 0 0]) (sz := 38) rfl (wanted_none rfl) rfl Tryz.underlying38 (by kernel_rfl) rfl (by decide) (by decide) (E.d 6 0) (CeR.len Hx2.out) ?_
   intro u5_7 qrow hm
   have zl5_7 := qrow.lt
   have Hx4 := hid qrow
   have zu5_7 := hm.size
   have HMu5_7 := hid hm
   have Cx5 := hid (Cx3.out.goE hm)
   clear hm Cx3
   clear act E qrow
   refine QSeq.go fun act E => ?_
   refine qc_appS (A := CeR) (e := 35) rfl (wanted_none rfl) rfl (.agg #[.int .i64 0, .int .i64 0, .int .u8 0, .int .u8 0, .int .u8 0, .int .u8 0, .int .u8 0, .int .u8 0, .int .u8 0, .int .u8 0, .int .u8 0, .int .u8 0, .int .u8 0, .int .u8 0, .int .u8 0, .int .u8 0, .int .u8 0, .int .u8 0, .int .u8 0, .int .u8 0, .int .u8 0, .int .u8 0, .int .u8 0, .int .u8 0, .int .u8 0, .int .u8 0, .int .u8 0, .int .u8 0, .int .u8 0, .int .u8 0, .int .u8 0, .int .u8 0, .int .u8 0, .int .u8 0, .int .i64 0, .int .i64 0, .int .i64 0, .slice none 0 0]) 96 Tryz.underlying38 info_Ce (by rfl) (of_decide_eq_true (by kernel_rfl)) (E.d 0 7) (E.d 7 0) ((HAL1.out.mod Cx5.out (fun _ _ h => h) (fun _ _ h => h))) (RdS.single (R := (fun k => (R2 k) ∨ (New wl1 u5_6 k) ∨ (k = u5_6.heap.size))) Hx4.out ((Hx2.out.mod HMu5_7.out (fun _ _ h => h)).widen (by intro k h1; rcases h1 with h1 | h1 <;> first | omega | exact h1.elim | exact Or.inl h1 | exact Or.inr (Or.inl h1) | exact Or.inr (Or.inr (h1)))) (by first | exact Or.inr rfl | exact Or.inr (Or.inr rfl) | (right; omega))) (by intro k h1 h2; rcases h1 with h1 | h1 | h1 <;> first | omega | (have hb := HBT.out k h1; omega)) (by rw [HLN1.out]; simp only [List.length_cons, List.length_nil]; omega) (by rw [HLN1.out, maxLen_val]; simp only [List.length_cons, List.length_nil]; omega) ?_
   intro ao4 cap4 u5_8 qacc hm
   have Hx6 := hid (qacc.widen (R' := (fun k => (New w1 wl1 k) ∨ (New u5_7 u5_8 k))) (E' := (fun k => (R2 k) ∨ (New w1 wl1 k) ∨ (New wl1 u5_6 k) ∨ (k = u5_6.heap.size))) (fun _ h => h) (by intro k h1; rcases h1 with (h1 | h1) | (h1 | h1 | h1) <;> first | omega | exact h1.elim | exact Or.inl h1 | exact Or.inr (Or.inl h1) | exact Or.inr (Or.inr (Or.inl h1)) | exact Or.inr (Or.inr (Or.inr (h1)))))
   have zu5_8 := hm.size
   have HMu5_8 := hid hm
   have Cx7 := hid (Mod.goS (S' := (fun k => (New w1 wl1 k))) Cx5.out hm (fun _ h => h.elim) (by intro k h0 h2; exact h2))
   clear hm Cx5
   clear act E qacc HAL1
   refine QSeq.pure rfl _ (fun E => ex_assign rfl (E.d 8 0)) ?_
   have Hx8 := hid ((Hx2.out.mod HMu5_7.out (fun _ _ h => h)).mod HMu5_8.out (by intro k h1 h2; rcases h1 with h1 | h1 <;> first | omega | (have hb := HBT.out k h1; omega)))
   have Hx9 := hid (Hx4.out.mod HMu5_8.out (by intro h2; omega))
   clear Hx2 Hx4 HMu5_7 HMu5_8
   refine QSeq.nil (t' := [_, _, _, _, _, _, _, _, _, _]) rfl ?_
   obtain rfl := HA0.out
   clear HA0 oe1 oe3 oe4
   simp only [pz, Act.put, sIB, sCZ, sCS]
   have hq := Hx6.out
   rw [HE1.out] at hq
   have HQ1 := Lib.hid hq
   clear hq
   go_wp2
   go_roundw
   case rel => exact ⟨k1 + 1, by go_num, by omega, by omega, by omega, (HQ1.out.widen (by intro b h1; omega) (by intro k h1; rcases h1 with h1 | h1 | h1 | h1 <;> first | omega | exact h1.elim | exact Or.inl h1 | exact Or.inr (h1))), (HKL1_0.out.mod Cx7.out (sN HBT)), (HKL1_1.out.mod Cx7.out (by intro h2; omega)), (HKL1_2.out.mod Cx7.out (by intro h2; omega)), (HML1.out.trans Cx7.out (by intro k h1 h2; omega))⟩
   case measure => simp [intOf]; omega
  ·skip
   obtain ⟨bA1, hbA1⟩ : ∃ b : Bool, b = decide (((k1 : Nat) : Int) < (x.l.length : Int)) := ⟨_, rfl⟩
   obtain ⟨bB1, hbB1⟩ : ∃ b : Bool, b = decide (((k1 : Nat) : Int) < 3) := ⟨_, rfl⟩
   go_upto_region 3 with (fail)
   refine wp_region_U 28 [5, 6, 7, 8, 9, 10, 11, 12, 13] [0, 1, 2, 3, 4, 5, 6, 7, 8] (fun a0 HA0 => ?_)
   have oe1 := ev HA0 1 rfl
   have oe4 := ev HA0 4 rfl
   refine QSeq.pure rfl _ (fun E => ex_move rfl (E.v oe4)) ?_
   refine QSeq.pure rfl (.pointer (some ⟨w.heap.size, 3, none⟩)) (fun E => ex_field rfl Tryz.underlying40 rfl (by kernel_rfl) (E.v oe1)) ?_
   refine QSeq.pure rfl _ (fun E => ex_load1 rfl Tryz.underlying38 rfl (E.d 1 0) (Cs.lit1 HKL1_1.out rfl)) ?_
   refine QSeq.pure rfl (.int .i64 x.l.length) (fun E => ex_lenS rfl (E.d 2 0) Tryz.underlying38) ?_
   refine QSeq.pure rfl (.bool bA1) (fun E => ex_binE rfl (E.d 0 3) (E.d 3 0) (guard_ints _ _ _ _ _ _) (run_lss_i _ _ _ Tryz.underlying3) (congrArg Value.bool hbA1.symm)) ?_
   refine QSeq.pure rfl _ (fun E => ex_move rfl (E.d 4 0)) ?_
   refine QSeq.may (b := bA1) rfl (.int .i64 ((k1 : Nat) : Int)) (fun E => ((wanted_of rfl rfl (E.sz 10 (by decide)) (E.d 5 0)).trans (beq_t _))) (fun E hb => ex_move rfl (E.v oe4)) ?_
   intro v3_6 hw
   have hv3_6 := hid hw
   clear hw
   refine QSeq.may (b := bA1) rfl (.bool bB1) (fun E => ((wanted_of rfl rfl (E.sz 10 (by decide)) (E.d 5 1)).trans (beq_t _))) (fun E hb => ex_binE rfl ((E.q 6 0 hv3_6.out).1 hb) rfl (guard_ints _ _ _ _ _ _) (run_lss_i _ _ _ Tryz.underlying3) (congrArg Value.bool hbB1.symm)) ?_
   intro v3_7 hw
   have hv3_7 := hid hw
   clear hw
   refine QSeq.pure rfl (.bool (bA1 && bB1)) (fun E => ex_pickE rfl (E.d 5 2) rfl rfl (and_val fun hb => (E.q 7 0 hv3_7.out).1 hb)) ?_
   clear hv3_6 hv3_7
   refine QSeq.nil (t' := [_, _, _, _, _, _, _, _, _]) rfl ?_
   obtain rfl := HA0.out
   clear HA0 oe1 oe4
   simp only [pz, Act.put, sIB, sCZ, sCS]
   rw [show (bA1 && bB1) = false by rw [hbA1, hbB1, Bool.and_eq_false_iff, decide_eq_false_iff_not, decide_eq_false_iff_not]; omega]
   have HTK1 := hid (show x.l.take k1 = x.l.take 3 from take_two (by omega) (by omega))
   go_upto_region 6 with (fail)
   refine wp_region_U 28 [25, 26, 30] [0, 1, 2] (fun a0 HA0 => ?_)
   have oe1 := ev HA0 1 rfl
   have oe3 := ev HA0 3 rfl
   refine QSeq.pure rfl _ (fun E => ex_move rfl (E.v oe3)) ?_
   refine QSeq.pure rfl (.pointer (some ⟨w.heap.size, 3, none⟩)) (fun E => ex_field rfl Tryz.underlying40 rfl (by kernel_rfl) (E.v oe1)) ?_
   refine QSeq.go fun act E => ?_
   refine qc_store rfl (wanted_none rfl) rfl HKL1_1.out (off := 3) (vs := [Value.slice aol1 ((x.l.take k1).map cutCe).length capl1]) (by kernel_rfl) one1 (by simp) (E.d 1 0) (ec (E.d 0 1)) ?_
   intro u6_2 qc0 hm
   have qB1 := qc0.eqv (b := #[.int .i64 x.rp, .int .i64 x.ep, .int .u64 (x.fl : Nat), Value.slice aol1 ((x.l.take k1).map cutCe).length capl1, .int .i64 x.sb, .int .i64 x.mr]) rfl
   clear qc0
   have Hx10 := hid qB1
   have zu6_2 := hm.size
   have Cx11 := hid (show Mod (fun k => (k = w.heap.size)) wl1 u6_2 from hm)
   clear hm
   clear act E qB1 HKL1_1
   refine QSeq.nil (t' := [_, _, _]) rfl ?_
   obtain rfl := HA0.out
   clear HA0 oe1 oe3
   simp only [pz, Act.put, sIB, sCZ, sCS, List.set_nil]
   go_upto_region 7 with (fail)
   refine wp_region_U 28 [27, 29] [0, 1] (fun a0 HA0 => ?_)
   have oe1 := ev HA0 1 rfl
   have oe2 := ev HA0 2 rfl
   refine QSeq.pure rfl _ (fun E => ex_loadA rfl Tryz.underlying40 rfl (off := 0) (cs := [.int .i64 x.rp, .int .i64 x.ep, .int .u64 (x.fl : Nat), Value.slice aol1 ((x.l.take k1).map cutCe).length capl1, .int .i64 x.sb, .int .i64 x.mr]) (by kernel_rfl) (E.v oe1) (Cs.whole Hx10.out)) ?_
   refine QSeq.go fun act E => ?_
   refine qc_store rfl (wanted_none rfl) rfl (HKL1_2.out.mod Cx11.out (by intro h2; omega)) (off := 0) (vs := [.int .i64 x.rp, .int .i64 x.ep, .int .u64 (x.fl : Nat), Value.slice aol1 ((x.l.take k1).map cutCe).length capl1, .int .i64 x.sb, .int .i64 x.mr]) (by kernel_rfl) (by intro u hu; simp at hu; rcases hu with rfl | rfl | rfl | rfl | rfl | rfl <;> rfl) (by simp) (E.v oe2) (ec (E.d 0 0)) ?_
   intro u7_1 qc0 hm
   have qB2 := qc0.eqv (b := #[.int .i64 x.rp, .int .i64 x.ep, .int .u64 (x.fl : Nat), Value.slice aol1 ((x.l.take k1).map cutCe).length capl1, .int .i64 x.sb, .int .i64 x.mr]) rfl
   clear qc0
   have Hx12 := hid qB2
   have zu7_1 := hm.size
   have Cx13 := hid (show Mod (fun k => (k = w.heap.size + 1)) u6_2 u7_1 from hm)
   clear hm
   clear act E qB2 HKL1_2
   refine QSeq.nil (t' := [_, _]) rfl ?_
   obtain rfl := HA0.out
   clear HA0 oe1 oe2
   simp only [pz, Act.put, sIB, sCZ, sCS, List.set_nil]
   go_wp2
   have hq := ((HAL1.out.mod Cx11.out (by intro k h1 h2; omega) (by intro k h1 h2; rcases h1 with h1 | h1 <;> first | omega | (have hb := HBT.out k h1; omega))).mod Cx13.out (by intro k h1 h2; omega) (by intro k h1 h2; rcases h1 with h1 | h1 <;> first | omega | (have hb := HBT.out k h1; omega)))
   refine bodyPost_ret (results_cellA rfl _ _ (w.heap.size + 1) ([.int .i64 x.rp, .int .i64 x.ep, .int .u64 (x.fl : Nat), Value.slice aol1 ((x.l.take k1).map cutCe).length capl1, .int .i64 x.sb, .int .i64 x.mr]) rfl (fun k u hu => by rw [Hx12.out.cell]; simpa using hu) Tryz.underlying40 rfl (by kernel_rfl)) rfl ⟨_, rfl, ⟨_, rfl, HOK.out, ?_⟩, ((HML1.out.trans Cx11.out (by intro k h1 h2; omega)).trans Cx13.out (by intro k h1 h2; omega))⟩
   rw [show (cutPm x).l = (x.l.take k1).map cutCe from congrArg (List.map cutCe) HTK1.out.symm]
   refine hq.rd.widen ?_
   intro k h
   (try dsimp only at h ⊢)
   rcases h with h | h | h
   ·right; omega
   ·exact Or.inl h
   ·right; omega
end Go.Proofs.YtpnikilkcifncaaGreat
