/- The contracts once more, each object with the blocks in which it lives (R): so that what one call does to one object leaves the others. -/
import Derived.Test.YtknpapcfhnhheaaCode4
import Derived.Test.YtknpapcfhnhheaaKeep2
import Derived.Test.YtknpapcfhnhheaaCodeW
import Derived.Test.YtknpapcfhnhheaaPlain1
set_option maxRecDepth 100000
set_option linter.unusedVariables false
namespace Go.Proofs.Ytknpapcfhnhheaa
open Go Go.RowKit Go.Gv

/-- a list of bytes (at most N) that is only read; its block, where it has one that matters, is in R -/
def RdR (R : Nat → Prop) (N : Nat) (w : World) (v : Value) (bs : List Int) : Prop := RdB w v bs ∧ (0 < bs.length → ∀ g, v.ownBlock = some g → R g) ∧ bs.length ≤ N
/-- a list of bytes that may be appended to, spoilt -/
def OwR (R : Nat → Prop) (N : Nat) (w : World) (v : Value) (bs : List Int) : Prop := OwnB w v bs ∧ (∀ g, v.ownBlock = some g → R g) ∧ bs.length ≤ N
def WrR (R : Nat → Prop) (N : Nat) (w : World) (b : Nat) (bs : List Int) : Prop := ∃ v, Wr w b v bs ∧ R b ∧ (∀ g, v.ownBlock = some g → R g) ∧ bs.length ≤ N
def RrR (T : TypeId) (R : Nat → Prop) (w : World) (r : Nat) (s : RSt) : Prop := ∃ v, Rr T w r v s ∧ R r ∧ (0 < (s.getD []).length → ∀ g, v.ownBlock = some g → R g)

section
variable {R R' S : Nat → Prop} {N M : Nat} {w w' : World} {v : Value} {bs : List Int} {b r : Nat} {s : RSt} {T : TypeId}
theorem RdR.mod (h : RdR R N w v bs) (hm : Mod S w w') (hs : ∀ k, R k → S k → False) : RdR R N w' v bs := ⟨h.1.mod hm (fun h0 g hg hS => hs g (h.2.1 h0 g hg) hS), h.2⟩
theorem RdR.widen (h : RdR R N w v bs) (hs : ∀ k, R k → R' k) (hM : N ≤ M) : RdR R' M w v bs := ⟨h.1, fun h0 g hg => hs g (h.2.1 h0 g hg), Nat.le_trans h.2.2 hM⟩
theorem OwR.mod (h : OwR R N w v bs) (hm : Mod S w w') (hs : ∀ k, R k → S k → False) : OwR R N w' v bs := ⟨OwnB.mod h.1 hm (fun g hg hS => hs g (h.2.1 g hg) hS), h.2⟩
theorem OwR.widen (h : OwR R N w v bs) (hs : ∀ k, R k → R' k) (hM : N ≤ M) : OwR R' M w v bs := ⟨h.1, fun g hg => hs g (h.2.1 g hg), Nat.le_trans h.2.2 hM⟩
theorem OwR.rd (h : OwR R N w v bs) : RdR R N w v bs := ⟨h.1.rd, fun _ => h.2.1, h.2.2⟩
theorem WrR.mod (h : WrR R N w b bs) (hm : Mod S w w') (hs : ∀ k, R k → S k → False) : WrR R N w' b bs := by
  obtain ⟨v, h1, h2, h3, h4⟩ := h
  exact ⟨v, h1.mod hm (hs b h2) (fun g hg => hs g (h3 g hg)), h2, h3, h4⟩
theorem WrR.widen (h : WrR R N w b bs) (hs : ∀ k, R k → R' k) (hM : N ≤ M) : WrR R' M w b bs := by
  obtain ⟨v, h1, h2, h3, h4⟩ := h
  exact ⟨v, h1, hs b h2, fun g hg => hs g (h3 g hg), Nat.le_trans h4 hM⟩
theorem RrR.mod (h : RrR T R w r s) (hm : Mod S w w') (hs : ∀ k, R k → S k → False) : RrR T R w' r s := by
  obtain ⟨v, h1, h2, h3⟩ := h
  exact ⟨v, h1.mod hm (hs r h2) (fun h0 g hg => hs g (h3 h0 g hg)), h2, h3⟩
theorem RrR.widen (h : RrR T R w r s) (hs : ∀ k, R k → R' k) : RrR T R' w r s := by
  obtain ⟨v, h1, h2, h3⟩ := h
  exact ⟨v, h1, hs r h2, fun h0 g hg => hs g (h3 h0 g hg)⟩
theorem RdR.len {ao : Option Addr} {n cap : Nat} (h : RdR R N w (.slice ao n cap) bs) : n = bs.length := h.1.len.1
theorem RdR.shape (h : RdR R N w v bs) : ∃ ao cap, v = .slice ao bs.length cap := by obtain ⟨ao, cap, e, _⟩ := h.1.shape; exact ⟨ao, cap, e⟩
theorem OwR.shape (h : OwR R N w v bs) : ∃ ao cap, v = .slice ao bs.length cap := h.rd.shape
end

/-- what is new in w' -/
def New (w w' : World) (k : Nat) : Prop := w.heap.size ≤ k ∧ k < w'.heap.size

theorem OwR_of {w w' : World} {v : Value} {bs : List Int} (N : Nat) (h : OwnB w' v bs) (hf : Fresh w v) (hN : bs.length ≤ N) : OwR (New w w') N w' v bs := ⟨h, fun g hg => ⟨hf g hg, Own.lt h hg⟩, hN⟩

theorem Cut_R {R : Nat → Prop} {N : Nat} {v : Value} {bs : List Int} (n : Nat) {w : World} (hr : RdR R N w v bs) (hn : n ≤ 1000000) :
    Calls Try.prog 26 #[v, .int .i64 n] w fun e w' => ∃ v', e = .returned v' ∧ OwR (New w w') n w' v' (bs.take n) ∧ Mod (fun _ => False) w w' := by
  obtain ⟨ao, cap, rfl⟩ := hr.shape
  exact (Cut_any ao _ cap bs n w hr.1 hn).mono fun e w' ⟨ao', cap', he, ho, hf, hm⟩ => ⟨_, he, OwR_of n ho hf (by simp; omega), hm⟩
theorem Copy_R {R : Nat → Prop} {N : Nat} {v : Value} {bs : List Int} {w : World} (hr : RdR R N w v bs) (hl : N ≤ 1000000) :
    Calls Try.prog 29 #[v] w fun e w' => ∃ v', e = .returned v' ∧ OwR (New w w') N w' v' bs ∧ Mod (fun _ => False) w w' :=
  (Copy_any v bs w hr.1 (by have := hr.2.2; unfold Room; omega)).mono fun e w' ⟨ao', cap', he, ho, hf, hm⟩ => ⟨_, he, OwR_of N ho hf hr.2.2, hm⟩
theorem Same_R {R R' : Nat → Prop} {N N' : Nat} {va vb : Value} {a b : List Int} {w : World} (ha : RdR R N w va a) (hb : RdR R' N' w vb b) :
    Calls Try.prog 18 #[va, vb] w fun e w' => e = .returned (.bool (decide (a = b))) ∧ Mod (fun _ => False) w w' :=
  (Same_any va vb a b w ha.1 hb.1).mono fun _ _ ⟨he, hd⟩ => ⟨he, mod_of_drewN hd _⟩
theorem NewWriter_R (w : World) :
    Calls Try.prog 44 #[] w fun e w' => ∃ b, e = .returned (.pointer (some ⟨b, 0, none⟩)) ∧ WrR (New w w') 0 w' b [] ∧ Mod (fun _ => False) w w' :=
  (NewWriter_any w).mono fun _ _ ⟨he, hW, hm⟩ => ⟨_, he, ⟨_, hW, ⟨Nat.le_refl _, hW.1.lt⟩, (fun g hg => by cases hg), Nat.le_refl _⟩, hm⟩
theorem WrTo_R {R : Nat → Prop} {w w' : World} {b : Nat} {v : Value} {bs : List Int} (N : Nat) (hb : R b) (hv : ∀ g, v.ownBlock = some g → R g) (h : WrTo w b v bs w') (hN : bs.length ≤ N) :
    WrR (fun k => R k ∨ New w w' k) N w' b bs ∧ Mod R w w' := by
  obtain ⟨v', h1, h2, h3⟩ := h
  refine ⟨⟨v', h1, .inl hb, fun g hg => ?_, hN⟩, h2.mono (fun k _ hk => ?_)⟩
  · rcases h3 with h3 | ⟨k, h3, hk⟩
    · exact .inl (hv g (h3 ▸ hg))
    · rw [h3] at hg
      obtain rfl : k = g := by simpa using hg
      exact .inr ⟨hk, Own.lt h1.2 h3⟩
  · rcases hk with rfl | hk
    · exact hb
    · exact hv k hk.symm
theorem Num_R {R : Nat → Prop} {N b : Nat} {n : Nat} {bs : List Int} {w : World} (hW : WrR R N w b bs) (hn : n < U64) (hl : N ≤ 1000000) :
    Calls Try.prog 67 #[.pointer (some ⟨b, 0, none⟩), .int .u64 n] w fun e w' => e = .returned (.pointer (some ⟨b, 0, none⟩)) ∧ WrR (fun k => R k ∨ New w w' k) (N + 10) w' b (bs ++ encN n) ∧ Mod R w w' := by
  obtain ⟨v, h1, h2, h3, h4⟩ := hW
  exact (Num_any b n v bs w h1 hn (by unfold Room; omega)).mono fun _ _ ⟨he, h⟩ => ⟨he, WrTo_R _ h2 h3 h (by have := encN_len10 hn; simp; omega)⟩
theorem WInt_R {R : Nat → Prop} {N b : Nat} {n : Int} {bs : List Int} {w : World} (hW : WrR R N w b bs) (hn : -9223372036854775808 ≤ n ∧ n ≤ 9223372036854775807) (hl : N ≤ 1000000) :
    Calls Try.prog 64 #[.pointer (some ⟨b, 0, none⟩), .int .i64 n] w fun e w' => e = .returned (.pointer (some ⟨b, 0, none⟩)) ∧ WrR (fun k => R k ∨ New w w' k) (N + 10) w' b (bs ++ encI n) ∧ Mod R w w' := by
  obtain ⟨v, h1, h2, h3, h4⟩ := hW
  exact (WInt_any b n v bs w h1 hn (by unfold Room; omega)).mono fun _ _ ⟨he, h⟩ => ⟨he, WrTo_R _ h2 h3 h (by have := encI_len n hn.2; simp; omega)⟩
theorem WRow_R {R R' : Nat → Prop} {N M b : Nat} {bs : List Int} {v2 : Value} {cs : List Int} {w : World} (hW : WrR R N w b bs) (hr : RdR R' M w v2 cs) (hs : ∀ k, R' k → R k → False) (hl : N + M ≤ 1000000) :
    Calls Try.prog 107 #[.pointer (some ⟨b, 0, none⟩), v2] w fun e w' => e = .returned (.pointer (some ⟨b, 0, none⟩)) ∧ WrR (fun k => R k ∨ New w w' k) (N + M + 10) w' b (bs ++ (encN cs.length ++ cs)) ∧ Mod R w w' := by
  obtain ⟨v, h1, h2, h3, h4⟩ := hW
  obtain ⟨ao, cap, rfl⟩ := hr.shape
  have h5 := hr.2.2
  refine (WRow_any b v bs ao cap cs w h1 hr.1 ?_ (by unfold Room; omega)).mono fun _ _ ⟨he, h⟩ => ⟨he, WrTo_R _ h2 h3 h (by have := encN_len10 (n := cs.length) (by unfold U64; omega); simp; omega)⟩
  intro h0 g hg hk
  rcases hk with rfl | hk
  · exact hs _ (hr.2.1 h0 _ hg) h2
  · exact hs _ (hr.2.1 h0 _ hg) (h3 g hk.symm)
theorem WHash_R {R : Nat → Prop} {N b : Nat} {bs h : List Int} {w : World} (hW : WrR R N w b bs) (hh : h.length = 32) (hB : Bytes h) (hl : N ≤ 1000000) :
    Calls Try.prog 66 #[.pointer (some ⟨b, 0, none⟩), hv h] w fun e w' => e = .returned (.pointer (some ⟨b, 0, none⟩)) ∧ WrR (fun k => R k ∨ New w w' k) (N + 32) w' b (bs ++ h) ∧ Mod R w w' := by
  obtain ⟨v, h1, h2, h3, h4⟩ := hW
  exact (WHash_any b v bs h w h1 hh hB (by unfold Room; omega)).mono fun _ _ ⟨he, h⟩ => ⟨he, WrTo_R _ h2 h3 h (by simp; omega)⟩
theorem WBytes_R {R : Nat → Prop} {N b : Nat} {bs : List Int} {w : World} (hW : WrR R N w b bs) (hl : N ≤ 1000000) :
    Calls Try.prog 50 #[.pointer (some ⟨b, 0, none⟩)] w fun e w' => ∃ v', e = .returned v' ∧ OwR (New w w') N w' v' bs ∧ Mod (fun _ => False) w w' := by
  obtain ⟨v, h1, h2, h3, h4⟩ := hW
  exact (WBytes_any b v bs w h1 (by unfold Room; omega)).mono fun e w' ⟨ao', cap', he, ho, hf, hm⟩ => ⟨_, he, OwR_of N ho hf h4, hm⟩
theorem NewReader_R {R : Nat → Prop} {N : Nat} {v : Value} {bs : List Int} {w : World} (hr : RdR R N w v bs) (hl : N ≤ 1000000) :
    Calls Try.prog 28 #[v] w fun e w' => ∃ r, e = .returned (.pointer (some ⟨r, 0, none⟩)) ∧ RrR 125 (New w w') w' r (some bs) ∧ Mod (fun _ => False) w w' :=
  (NewReader_any v bs w hr.1 (by have := hr.2.2; unfold Room; omega)).mono fun _ w' ⟨r, v', he, h1, h2, h3, hm⟩ => ⟨r, he, ⟨v', h2, ⟨h1, h2.1.lt⟩, fun h0 g hg => ⟨h3 h0 g hg, h2.2.1.block_lt h0 g hg⟩⟩, hm⟩
theorem RrTo_R {T : TypeId} {R : Nat → Prop} {w w' : World} {r : Nat} {v : Value} {s s' : RSt} (hr : R r) (hv : 0 < (s.getD []).length → ∀ g, v.ownBlock = some g → R g) (hl : (s'.getD []).length ≤ (s.getD []).length) (h : RrTo T w r v s' w') :
    RrR T R w' r s' ∧ Mod R w w' := by
  obtain ⟨v', h1, h2, h3⟩ := h
  exact ⟨⟨v', h1, hr, fun h0 g hg => hv (by omega) g (by rw [← h3 h0]; exact hg)⟩, h2.mono (fun k _ hk => by subst hk; exact hr)⟩
theorem RNum_R {R : Nat → Prop} {r : Nat} {s : RSt} {w : World} (hR : RrR 125 R w r s) :
    Calls Try.prog 116 #[.pointer (some ⟨r, 0, none⟩)] w fun e w' => e = .returned (.int .u64 ((rNum s).1 : Nat)) ∧ RrR 125 R w' r (rNum s).2 ∧ Mod R w w' := by
  obtain ⟨v, h1, h2, h3⟩ := hR
  exact (RNum_any r v s w h1).mono fun _ _ ⟨he, h⟩ => ⟨he, RrTo_R h2 h3 (rNum_len s) h⟩
theorem RInt_R {R : Nat → Prop} {r : Nat} {most : Int} {s : RSt} {w : World} (hR : RrR 125 R w r s) (hm : -9223372036854775808 ≤ most ∧ most ≤ 9223372036854775807) :
    Calls Try.prog 115 #[.pointer (some ⟨r, 0, none⟩), .int .i64 most] w fun e w' => e = .returned (.int .i64 ((rInt most s).1 : Nat)) ∧ RrR 125 R w' r (rInt most s).2 ∧ Mod R w w' := by
  obtain ⟨v, h1, h2, h3⟩ := hR
  exact (RInt_any r most v s w h1 hm).mono fun _ _ ⟨he, h⟩ => ⟨he, RrTo_R h2 h3 (rInt_len most s) h⟩
theorem rRow_len (most : Int) (s : RSt) : ((rRow most s).2.getD []).length ≤ (s.getD []).length := Nat.le_trans (rTake_len _ _) (rInt_len most s)
theorem rHash_len (s : RSt) : ((rHash s).2.getD []).length ≤ (s.getD []).length := by
  have h := rTake_len 32 s
  unfold rHash
  generalize rTake 32 s = q at *
  rcases q with ⟨b, _ | x⟩
  · simp
  · simpa using h
theorem rTake_bd (n : Nat) (s : RSt) : (rTake n s).1.length ≤ n := by
  cases s with
  | none => simp
  | some l => simp only [rTake]; split <;> simp; omega
theorem RRow_R {R : Nat → Prop} {r : Nat} {most : Int} {s : RSt} {w : World} (hR : RrR 125 R w r s) (hm : -9223372036854775808 ≤ most ∧ most ≤ 1000000000) :
    Calls Try.prog 149 #[.pointer (some ⟨r, 0, none⟩), .int .i64 most] w fun e w' => ∃ v', e = .returned v' ∧ OwR (New w w') most.toNat w' v' (rRow most s).1 ∧ RrR 125 R w' r (rRow most s).2 ∧ Mod R w w' := by
  obtain ⟨v, h1, h2, h3⟩ := hR
  refine (RRow_any r most v s w h1 hm).mono fun _ _ ⟨v', he, ho, hf, h⟩ => ⟨v', he, OwR_of _ ho hf ?_, RrTo_R h2 h3 (rRow_len most s) h⟩
  have := rTake_bd (rInt most s).1 (rInt most s).2
  have := rInt_le most s
  show (rTake _ _).1.length ≤ _
  omega
theorem RHash_R {R : Nat → Prop} {r : Nat} {s : RSt} {w : World} (hR : RrR 125 R w r s) :
    Calls Try.prog 144 #[.pointer (some ⟨r, 0, none⟩)] w fun e w' => e = .returned (hv (rHash s).1) ∧ RrR 125 R w' r (rHash s).2 ∧ Mod R w w' := by
  obtain ⟨v, h1, h2, h3⟩ := hR
  exact (RHash_any r v s w h1).mono fun _ _ ⟨he, h⟩ => ⟨he, RrTo_R h2 h3 (rHash_len s) h⟩
theorem OK_R {R : Nat → Prop} {r : Nat} {s : RSt} {w : World} (hR : RrR 125 R w r s) :
    Calls Try.prog 39 #[.pointer (some ⟨r, 0, none⟩)] w fun e w' => e = .returned (.bool s.isSome) ∧ w = w' := by
  obtain ⟨v, h1, h2, h3⟩ := hR
  exact OK_any r v s w h1
theorem Left_R {R : Nat → Prop} {r : Nat} {s : RSt} {w : World} (hR : RrR 125 R w r s) :
    Calls Try.prog 40 #[.pointer (some ⟨r, 0, none⟩)] w fun e w' => e = .returned (.int .i64 (s.getD []).length) ∧ w = w' := by
  obtain ⟨v, h1, h2, h3⟩ := hR
  exact Left_any r v s w h1
theorem hv_guard (op : BinOp) (x y : Operand) (a : List Int) (ys : Array Value) (w : World) : (eqGuard op 25 x y (hv a) (.agg ys)).run Try.prog w = .ok () w :=
  run_eqGuard_agg (P := Try.prog) w op 25 x y _ ys (by kernel_rfl)
theorem hv_guard2 (op : BinOp) (x y : Operand) (a b : List Int) (w : World) : (eqGuard op 25 x y (hv a) (hv b)).run Try.prog w = .ok () w :=
  run_eqGuard_agg (P := Try.prog) w op 25 x y _ _ (by kernel_rfl)
theorem hv_eql {a b : List Int} (ha : a.length = 32) (hb : b.length = 32) (w : World) : (binOp .eql 25 (hv a) (hv b)).run Try.prog w = .ok (.bool (decide (a = b))) w :=
  run_eql_ints w 25 5 32 Try.underlying25 Try.underlying5 (by kernel_rfl) a b ha hb
theorem hash_zero (w : World) : (binOp .eql 25 (hv [0, 0, 0, 0, 0, 0, 0, 0, 0, 0, 0, 0, 0, 0, 0, 0, 0, 0, 0, 0, 0, 0, 0, 0, 0, 0, 0, 0, 0, 0, 0, 0]) (.agg #[bv 0, bv 0, bv 0, bv 0, bv 0, bv 0, bv 0, bv 0, bv 0, bv 0, bv 0, bv 0, bv 0, bv 0, bv 0, bv 0, bv 0, bv 0, bv 0, bv 0, bv 0, bv 0, bv 0, bv 0, bv 0, bv 0, bv 0, bv 0, bv 0, bv 0, bv 0, bv 0])).run Try.prog w = .ok (.bool true) w :=
  run_eql_ints w 25 5 32 Try.underlying25 Try.underlying5 (by kernel_rfl) (List.replicate 32 0) (List.replicate 32 0) rfl rfl

theorem rd_eql (a : Addr) (w : World) : (binOp .eql 69 (.pointer (some a)) (.pointer (some a))).run Try.prog w = .ok (.bool true) w := run_eql_ptr_same' a Try.underlying69 (by kernel_rfl) w

/-- append of bytes, with the blocks -/
theorem wpList_appR {w : World} {ops : Array Oper} {rest : List Oper} {o : Oper} {a : Act} {Q : Exit → Act → World → Prop} (hgd : o.guard = none) (s x : Operand)
    (ho : o.op = .call { callee := .builtin .append, args := #[s, x], argTypes := #[38, 38] })
    {R R' : Nat → Prop} {N M : Nat} {v : Value} {bs : List Int} (hs : a.eval s = v) (hown : OwR R N w v bs) {xv : Value} {new : List Int} (hx : a.eval x = xv) (hrd : RdR R' M w xv new)
    (hroom : N + M ≤ 1000000)
    (h : ∀ ao cap w', OwR (fun k => R k ∨ New w w' k) (N + M) w' (.slice ao (bs.length + new.length) cap) (bs ++ new) → Mod R w w' → wpList Try.prog ops Q rest (a.put o.dst (.slice ao (bs.length + new.length) cap)) w') : wpList Try.prog ops Q (o :: rest) a w :=
  wpList_appB hgd s x ho hs hown.1 hx hrd.1 (by have := hown.2.2; have := hrd.2.2; unfold Room; omega) fun ao cap w' ⟨h1, h2, h3⟩ => h ao cap w' ⟨h1, (fun g hg => by
    rcases h3 with h3 | ⟨k, h3, hk⟩
    · exact .inl (hown.2.1 g (h3 ▸ hg))
    · rw [h3] at hg
      obtain rfl : k = g := by simpa using hg
      exact .inr ⟨hk, Own.lt h1 h3⟩), by have := hown.2.2; have := hrd.2.2; simp; omega⟩ (h2.mono (fun k _ hk => hown.2.1 k hk.symm))
end Go.Proofs.Ytknpapcfhnhheaa
