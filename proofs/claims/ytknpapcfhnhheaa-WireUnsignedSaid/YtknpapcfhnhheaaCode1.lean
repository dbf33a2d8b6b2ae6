/- code.Writer: what each of its methods does to the bytes written. -/
import Derived.Test.YtknpapcfhnhheaaBytes
import Derived.Deep.DeepMust
set_option maxRecDepth 100000
namespace Go.Proofs.Ytknpapcfhnhheaa
open Go Go.RowKit Go.Gv

/-- seven binary digits a byte, the lowest first -/
def encN (n : Nat) : List Int := if n < 128 then [(n : Int)] else ((n : Int) % 128 + 128) :: encN (n / 128)
termination_by n
decreasing_by omega

theorem encN_lt {n : Nat} (h : n < 128) : encN n = [(n : Int)] := by rw [encN, if_pos h]
theorem encN_ge {n : Nat} (h : 128 ≤ n) : encN n = ((n : Int) % 128 + 128) :: encN (n / 128) := by rw [encN, if_neg (by omega)]
theorem encN_len (k : Nat) : ∀ n, n < 128 ^ (k + 1) → 1 ≤ (encN n).length ∧ (encN n).length ≤ k + 1 := by
  induction k with
  | zero => intro n hn; rw [encN_lt (by omega)]; simp
  | succ k ih =>
    intro n hn
    by_cases h : n < 128
    · rw [encN_lt h]; simp
    · rw [encN_ge (by omega)]
      have := ih (n / 128) (by rw [Nat.pow_succ] at hn; omega)
      simp only [List.length_cons]; omega
theorem encN_pos (n : Nat) : 1 ≤ (encN n).length := by
  by_cases h : n < 128
  · rw [encN_lt h]; simp
  · rw [encN_ge (by omega)]; simp
theorem encN_len10 {n : Nat} (h : n < U64) : 1 ≤ (encN n).length ∧ (encN n).length ≤ 10 :=
  encN_len 9 n (Nat.lt_of_lt_of_le h (by unfold U64; decide))

theorem or128 (m : Nat) : bits .or .u8 ((m : Int) % 256) 128 = (m : Int) % 128 + 128 := by
  have e : ((m : Int) % 256) = ((m % 256 : Nat) : Int) := by omega
  have h := u8_or_nat (m % 256) 128 (by omega) (by omega)
  rw [e]
  refine h.trans ?_
  have d : ∀ x, x < 256 → x ||| 128 = x % 128 + 128 := by decide
  rw [d _ (by omega), Nat.mod_mod_of_dvd _ (by decide)]; omega

def Wr (w : World) (b : Nat) (v : Value) (bs : List Int) : Prop := Cs w b #[v] 138 ∧ OwnB w v bs
def WrTo (w : World) (b : Nat) (v : Value) (bs : List Int) (w' : World) : Prop :=
  ∃ v', Wr w' b v' bs ∧ Mod (fun k => k = b ∨ some k = v.ownBlock) w w' ∧ (v'.ownBlock = v.ownBlock ∨ ∃ k, v'.ownBlock = some k ∧ w.heap.size ≤ k)

theorem Wr.mod {S : Nat → Prop} {w w' : World} {b : Nat} {v : Value} {bs : List Int} (h : Wr w b v bs) (hm : Mod S w w') (hb : ¬ S b) (hv : ∀ g, v.ownBlock = some g → ¬ S g) : Wr w' b v bs :=
  ⟨h.1.mod hm hb, OwnB.mod h.2 hm hv⟩
theorem WrTo.refl {w : World} {b : Nat} {v : Value} {bs : List Int} (h : Wr w b v bs) : WrTo w b v bs w := ⟨v, h, Mod.refl _ _, .inl rfl⟩

theorem WrTo.trans {w w1 w2 : World} {b : Nat} {v v1 : Value} {bs2 : List Int} (hm : Mod (fun k => k = b ∨ some k = v.ownBlock) w w1)
    (hf : v1.ownBlock = v.ownBlock ∨ ∃ k, v1.ownBlock = some k ∧ w.heap.size ≤ k) (h : WrTo w1 b v1 bs2 w2) : WrTo w b v bs2 w2 := by
  obtain ⟨v', h1, h2, h3⟩ := h
  refine ⟨v', h1, hm.trans h2 ?_, ?_⟩
  · intro i hi hS
    rcases hS with hS | hS
    · exact .inl hS
    · rcases hf with hf | ⟨k, hf, hk⟩
      · exact .inr (hS.trans hf)
      · rw [hf] at hS; simp at hS; omega
  · rcases h3 with h3 | ⟨k, h3, hk⟩
    · rw [h3]; exact hf
    · exact .inr ⟨k, h3, Nat.le_trans hm.size hk⟩

/-- the store of what an append gave into the writer -/
theorem Wr_step {w w1 : World} {b : Nat} {v : Value} {bs : List Int} {v1 : Value} (hW : Wr w b v bs) (wx : World) (hx : Mod (fun _ => False) w wx) (new : List Int)
    (h : AppB wx v (bs ++ new) v1 w1) (hv : v.ownBlock ≠ some b) :
    w1.cell? ⟨b, 0, none⟩ = some v ∧ w1.frozen? ⟨b, 0, none⟩ = false ∧ WrTo w b v (bs ++ new) (w1.setCell ⟨b, 0, none⟩ v1) := by
  obtain ⟨hc, ho⟩ := hW
  obtain ⟨h1, h2, h3⟩ := h
  have hb : ¬ (some b = v.ownBlock) := fun e => hv e.symm
  have hc1 : Cs w1 b #[v] 138 := (hc.mod hx id).mod h2 hb
  refine ⟨by rw [hc1.cell]; rfl, hc1.frozen 0, v1, ⟨hc1.set 0 v1, ?_⟩, ?_, ?_⟩
  · refine Own.other h1 ?_ _
    intro g hg e
    subst e
    rcases h3 with h3 | ⟨k, h3, hk⟩
    · rw [h3] at hg; exact hv hg
    · rw [h3] at hg; simp at hg; subst hg; have := hc.lt; have := hx.size; omega
  · exact ((hx.mono (fun _ _ h => h.elim)).trans h2 (fun i _ h => .inr h)).setCell (fun _ => .inl rfl) _
  · rcases h3 with h3 | ⟨k, h3, hk⟩
    · exact .inl h3
    · exact .inr ⟨k, h3, Nat.le_trans hx.size hk⟩

theorem Wr_ne {w : World} {b : Nat} {v : Value} {bs : List Int} (hW : Wr w b v bs) : v.ownBlock ≠ some b := by
  obtain ⟨hc, _, _, ⟨rfl, _⟩ | ⟨g, cap, cur, rfl, hg, _⟩⟩ := hW
  · simp [Value.ownBlock]
  · simp only [Value.ownBlock, ne_eq, Option.some.injEq]
    intro e
    subst e
    unfold Cs at hc hg
    rw [hc] at hg
    simp at hg

theorem Num_any (b n : Nat) (v : Value) (bs : List Int) (w : World) (hW : Wr w b v bs) (hn : n < U64) (hl : bs.length + 10 ≤ Room) :
    Calls Try.prog 67 #[.pointer (some ⟨b, 0, none⟩), .int .u64 n] w fun e w' => e = .returned (.pointer (some ⟨b, 0, none⟩)) ∧ WrTo w b v (bs ++ encN n) w' := by
  have hen := encN_len10 hn
  clear hn
  go_enter Try.func67, Try.ntmps67
  go_wp2
  go_loopw [1] (fun t wr => ∃ (m : Nat) (bs' : List Int), t = .int .u64 m ∧ m ≤ n ∧ bs' ++ encN m = bs ++ encN n ∧ WrTo w b v bs' wr) (fun t _ => (intOf t).toNat)
  case atStart => exact ⟨n, bs, rfl, Nat.le_refl _, rfl, .refl hW⟩
  case round =>
    obtain ⟨m, bs', rfl, hm, hbs, v', hW', hmod, hfr⟩ := hrel
    have hlen : bs'.length + (encN m).length = bs.length + (encN n).length := by have := congrArg List.length hbs; simpa using this
    have hcell : wr.cell? ⟨b, 0, none⟩ = some v' := (hW'.1.cell 0).trans rfl
    have hlt := hW'.1.lt
    have hpos := encN_pos m
    have hroom : bs'.length + 1 ≤ Room := by omega
    have Hne := Lib.hid (Wr_ne hW')
    have Hbs := Lib.hid hbs
    have Hfr := Lib.hid hfr
    have Hm := Lib.hid hmod
    have Hr := Lib.hid hroom
    clear hbs hfr hmod hlen hl hen hroom hpos
    by_cases h128 : (128 : Int) ≤ m
    · have hor := or128 m
      go_wp2_with (at_builtin; refine wpList_appB rfl (.tmp 11) (.tmp 15) rfl rfl (hW'.2.alloc _) (new := [(m : Int) % 128 + 128]) rfl (RdB_one _ (by omega) (by omega) _) Hr.out ?_)
      intro ao cap w1 happ
      obtain ⟨hc1, hf1, hWT⟩ := Wr_step hW' _ ((Mod.refl _ _).alloc _) [(m : Int) % 128 + 128] happ Hne.out
      have HWT := Lib.hid hWT
      clear hWT happ hor
      go_wp2
      go_roundw
      case rel => exact ⟨m / 128, _, by go_num, by omega, by have := Hbs.out; rw [encN_ge (by omega)] at this; simpa using this, WrTo.trans Hm.out Hfr.out HWT.out⟩
      case measure => simp [intOf]; omega
    · go_wp2_with (at_builtin; refine wpList_appB rfl (.tmp 25) (.tmp 28) rfl rfl (hW'.2.alloc _) (new := [(m : Int)]) rfl (RdB_one _ (by omega) (by omega) _) Hr.out ?_)
      intro ao cap w1 happ
      obtain ⟨hc1, hf1, hWT⟩ := Wr_step hW' _ ((Mod.refl _ _).alloc _) [(m : Int)] happ Hne.out
      have HWT := Lib.hid hWT
      clear hWT happ
      go_wp2
      go_ret
      refine ⟨rfl, ?_⟩
      have hb := Hbs.out
      rw [encN_lt (by omega)] at hb
      rw [← hb]
      exact WrTo.trans Hm.out Hfr.out HWT.out

theorem encN_bytes : ∀ n, Bytes (encN n) := by
  intro n
  induction n using Nat.strongRecOn with
  | _ n ih =>
    by_cases h : n < 128
    · rw [encN_lt h]; exact Bytes.one (by omega) (by omega)
    · rw [encN_ge (by omega)]
      intro x hx
      rcases List.mem_cons.1 hx with rfl | hx
      · omega
      · exact ih (n / 128) (by omega) x hx

/-- a number from 0 on -/
def encI (n : Int) : List Int := encN (max 0 n).toNat

theorem WInt_any (b : Nat) (n : Int) (v : Value) (bs : List Int) (w : World) (hW : Wr w b v bs) (hn : -9223372036854775808 ≤ n ∧ n ≤ 9223372036854775807) (hl : bs.length + 10 ≤ Room) :
    Calls Try.prog 64 #[.pointer (some ⟨b, 0, none⟩), .int .i64 n] w fun e w' => e = .returned (.pointer (some ⟨b, 0, none⟩)) ∧ WrTo w b v (bs ++ encI n) w' := by
  have hU : (max 0 n).toNat < U64 := by unfold U64; omega
  have key := Num_any b (max 0 n).toNat v bs w hW hU hl
  have Hl := Lib.hid hl
  clear hU hl key
  by_cases h0 : 0 < n
  · obtain ⟨k, rfl⟩ := Int.eq_ofNat_of_zero_le (Int.le_of_lt h0)
    have ek : (max 0 (k : Int)).toNat = k := by omega
    unfold encI
    rw [ek]
    clear ek
    go_enter Try.func64, Try.ntmps64
    go_wp2_with (go_at_call 67; go_must (refine (Num_any b k v bs _ hW (by unfold U64; omega) Hl.out).mono ?_); rintro e w' ⟨rfl, hWT⟩; have HW := Lib.hid hWT; clear hWT)
    go_ret
    exact ⟨rfl, HW.out⟩
  · have ek : (max 0 n).toNat = 0 := by omega
    unfold encI
    rw [ek]
    clear ek
    go_enter Try.func64, Try.ntmps64
    go_wp2_with (go_at_call 67; go_must (refine (Num_any b 0 v bs _ hW (by unfold U64; omega) Hl.out).mono ?_); rintro e w' ⟨rfl, hWT⟩; have HW := Lib.hid hWT; clear hWT)
    go_ret
    exact ⟨rfl, HW.out⟩

theorem wr_eql (a : Addr) (w : World) : (binOp .eql 95 (.pointer (some a)) (.pointer (some a))).run Try.prog w = .ok (.bool true) w := run_eql_ptr_same' a Try.underlying95 (by kernel_rfl) w
theorem wr_neq (a : Addr) (w : World) : (binOp .neq 95 (.pointer (some a)) (.pointer (some a))).run Try.prog w = .ok (.bool false) w := run_neq_ptr_same a Try.underlying95 (by kernel_rfl) w

theorem encI_len (n : Int) (hn : n ≤ 9223372036854775807) : 1 ≤ (encI n).length ∧ (encI n).length ≤ 10 := encN_len10 (by unfold U64; omega)
theorem encI_bytes (n : Int) : Bytes (encI n) := encN_bytes _
theorem encI_nat (n : Nat) : encI n = encN n := by unfold encI; congr 1

theorem NewWriter_any (w : World) :
    Calls Try.prog 44 #[] w fun e w' => e = .returned (.pointer (some ⟨w.heap.size, 0, none⟩)) ∧ Wr w' w.heap.size (.slice none 0 0) [] ∧ Mod (fun _ => False) w w' := by
  go_enter Try.func44, Try.ntmps44
  go_wp2
  go_ret
  exact ⟨rfl, ⟨Cs.new _ _ _, OwnB.nil _⟩, (Mod.refl _ _).alloc _⟩

/-- the bytes written, in new memory -/
theorem WBytes_any (b : Nat) (v : Value) (bs : List Int) (w : World) (hW : Wr w b v bs) (hl : bs.length ≤ Room) :
    Calls Try.prog 50 #[.pointer (some ⟨b, 0, none⟩)] w fun e w' => ∃ ao cap, e = .returned (.slice ao bs.length cap) ∧ OwnB w' (.slice ao bs.length cap) bs ∧ Fresh w (.slice ao bs.length cap) ∧ Mod (fun _ => False) w w' := by
  have hcell : w.cell? ⟨b, 0, none⟩ = some v := (hW.1.cell 0).trans rfl
  have Hl := Lib.hid (show ([] : List Int).length + bs.length ≤ Room by simpa using hl)
  clear hl
  go_enter Try.func50, Try.ntmps50
  go_wp2_with (at_builtin; refine wpList_appB rfl (.const (.slice none 0 0)) (.tmp 6) rfl rfl (OwnB.nil _) (new := bs) rfl hW.2.rd Hl.out ?_)
  intro ao cap w1 happ
  have HA := Lib.hid happ
  clear happ
  go_wp2
  go_ret
  obtain ⟨h1, h2, h3⟩ := HA.out
  simp only [List.length_nil, Nat.zero_add] at *
  refine ⟨ao, cap, rfl, h1, ?_, h2.mono (fun k _ hk => by simp [Value.ownBlock] at hk)⟩
  intro g hg
  rcases h3 with h3 | ⟨k, h3, hk⟩
  · rw [h3] at hg; cases hg
  · rw [h3] at hg; simp at hg; omega

theorem WRow_any (b : Nat) (v : Value) (bs : List Int) (ao : Option Addr) (cap : Nat) (cs : List Int) (w : World) (hW : Wr w b v bs) (hr : RdB w (.slice ao cs.length cap) cs)
    (hs : Apart (.slice ao cs.length cap) cs.length (fun k => k = b ∨ some k = v.ownBlock)) (hl : bs.length + cs.length + 10 ≤ Room) :
    Calls Try.prog 107 #[.pointer (some ⟨b, 0, none⟩), .slice ao cs.length cap] w fun e w' => e = .returned (.pointer (some ⟨b, 0, none⟩)) ∧ WrTo w b v (bs ++ (encN cs.length ++ cs)) w' := by
  have hR : cs.length < 9223372036854775807 := by unfold Room at hl; omega
  have HR := Lib.hid hR
  have h10 := encN_len10 (n := cs.length) (by unfold U64; omega)
  have Hl := Lib.hid (show (bs ++ encN cs.length).length + cs.length ≤ Room by simp; omega)
  have Hl2 := Lib.hid (show bs.length + 10 ≤ Room by omega)
  have Hs := Lib.hid hs
  clear hs hl hR h10
  go_enter Try.func107, Try.ntmps107
  go_wp2_with (first
    | (go_at_call 64; go_must (refine (WInt_any b cs.length v bs _ hW (by have := HR.out; omega) Hl2.out).mono ?_); rintro e w1 ⟨rfl, v1, hW1, hm1, hf1⟩; have hcell : w1.cell? ⟨b, 0, none⟩ = some v1 := (hW1.1.cell 0).trans rfl; rw [encI_nat] at hW1; have hr1 : RdB w1 (.slice ao cs.length cap) cs := hr.mod hm1 Hs.out; have HM1 := Lib.hid hm1; have HF1 := Lib.hid hf1; clear hm1 hf1)
    | (at_builtin; go_must (refine wpList_appB rfl (.tmp 13) (.tmp 14) rfl rfl hW1.2 (new := cs) rfl hr1 Hl.out ?_)))
  intro ao1 cap1 w2 happ
  rw [← List.append_assoc] at happ
  obtain ⟨hc1, hf1, hWT⟩ := Wr_step hW1 w1 (Mod.refl _ _) cs happ (Wr_ne hW1)
  have HWT := Lib.hid hWT
  clear hWT happ hr1 hr hW1 hW
  go_wp2
  go_ret
  refine ⟨rfl, ?_⟩
  rw [← List.append_assoc]
  exact WrTo.trans HM1.out HF1.out HWT.out
end Go.Proofs.Ytknpapcfhnhheaa
