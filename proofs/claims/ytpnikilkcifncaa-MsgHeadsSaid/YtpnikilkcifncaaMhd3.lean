/- Texts that are built one behind the other: XGp, XRead2, XRead3, XRead4, XRead5, XSeg, XGl, XJoin, XQ3, XCut1, XGt1. No condition. -/
import Derived.Test.YtpnikilkcifncaaMhd2
import Derived.Lib.ConvBytes
set_option maxRecDepth 100000
set_option linter.unusedVariables false
/- What the readers of parts answer, in plain words; that what was put is read as it was, and that what is read was put so. -/
namespace Go.Proofs.Ytpnikilkcifncaa
open Go Go.RowKit Go.Gv

/-- one read behind the other -/
def gb {α β : Type} (g : RSt → α × RSt) (k : α → RSt → β × RSt) (s : RSt) : β × RSt := k (g s).1 (g s).2
/-- a number up to 2^40 -/
def gI (s : RSt) : Int × RSt := (((rInt 1099511627776 s).1 : Nat), (rInt 1099511627776 s).2)
def gItems {α : Type} (g : RSt → α × RSt) : Nat → List α → RSt → List α × RSt
  | 0, acc, s => (acc, s)
  | n + 1, acc, s => if (g s).2 = none then ([], none) else gItems g n (acc ++ [(g s).1]) (g s).2
def gList {α : Type} (g : RSt → α × RSt) (s : RSt) : List α × RSt := gItems g (rInt 100 s).1 [] (rInt 100 s).2
def gSig : RSt → (Int × Int) × RSt := gb gI fun a => gb gI fun b s => ((a, b), s)
def gCm : RSt → Cm × RSt := gb gSig fun n => gb rHash fun h => gb gI fun l => gb gSig fun g s => (⟨n.1, n.2, h, l, g.1, g.2⟩, s)
def gSt : RSt → St × RSt := gb gI fun p => gb gSig fun n => gb rHash fun h => gb rNum fun t => gb gSig fun g s => (⟨p, n.1, n.2, h, t, g.1, g.2⟩, s)
def gCe : RSt → Ce × RSt := gb gCm fun c => gb (gList gSt) fun l s => (⟨c, l⟩, s)
def gPm : RSt → Pm × RSt := gb gI fun p => gb gI fun e => gb rNum fun f => gb (gList gCe) fun l => gb gSig fun g s => (⟨p, e, f, l, g.1, g.2⟩, s)
def gOp : RSt → Op × RSt := gb gI fun i => gb (rRow 256) fun p => gb rHash fun h s => (⟨i, p, h⟩, s)
def gDn : RSt → Dn × RSt := gb gI fun p => gb gI fun i => gb gSig fun g s => (⟨p, i, g.1, g.2⟩, s)
def gTb : RSt → Tb × RSt := gb gI fun i => gb (gList gDn) fun l s => (⟨i, l⟩, s)
def gBa : RSt → Ba × RSt := gb gI fun e => gb rNum fun t => gb (gList gPm) fun p => gb (gList gOp) fun o => gb (gList gTb) fun m s => (⟨e, t, p, o, m⟩, s)
def gVt : RSt → Vt × RSt := gb gI fun k => gb gI fun e => gb gI fun r => gb gI fun p => gb rHash fun h => gb gSig fun g s => (⟨k, e, r, p, h, g.1, g.2⟩, s)
def gEn : RSt → En × RSt := gb gSig fun n => gb rHash fun h => gb rNum fun t s => (⟨n.1, n.2, h, t⟩, s)

/-- what was put is read as it was -/
def Ed {α : Type} (g : RSt → α × RSt) (put : α → List Int) (ok : α → Prop) : Prop := ∀ x r, ok x → g (some (put x ++ r)) = (x, some r)
/-- what is read was put so -/
def De {α : Type} (g : RSt → α × RSt) (Q : α → List Int → List Int → Prop) : Prop := ∀ s r, (g s).2 = some r → ∃ l, s = some l ∧ (Bytes l → Q (g s).1 l r)
def Was {α : Type} (put : α → List Int) (ok : α → Prop) (x : α) (l r : List Int) : Prop := l = put x ++ r ∧ ok x
/-- the numbers that are read -/
def UpI (x : Int) : Prop := 0 ≤ x ∧ x ≤ 1099511627776
theorem gI_ed : Ed gI encI UpI := by
  intro x r h
  obtain ⟨h0, h1⟩ := h
  obtain ⟨n, rfl⟩ := Int.eq_ofNat_of_zero_le h0
  unfold gI
  rw [encI_nat, rInt_enc (by unfold U64; omega), if_neg (by omega)]
theorem rNum_ed : Ed rNum encN (· < U64) := fun x r h => rNum_enc h r
theorem rHash_ed : Ed rHash (fun h => h) (fun h => h.length = 32) := fun x r h => rHash_app h r
theorem rRow_ed (most : Int) (hm : most ≤ 1000000) : Ed (rRow most) (fun b => encN b.length ++ b) (fun b => (b.length : Int) ≤ most) := by
  intro x r h
  have := rRow_enc (bs := x) (by unfold U64; omega) most r
  rw [if_neg (by omega)] at this
  simpa only [List.append_assoc] using this
theorem dec_can : ∀ (l : List Int) (i acc n : Nat) (r : List Int), Bytes l → decGo i acc l = some (n, r) → ∃ m, l = encN m ++ r ∧ n = acc + m * 2 ^ (7 * i) ∧ (0 < i → 1 ≤ m) := by
  intro l
  induction l with
  | nil => intro i acc n r _ h; cases h
  | cons c cs ih =>
    intro i acc n r hb h
    have hc := hb c (List.mem_cons_self ..)
    rw [decGo] at h
    by_cases h1 : i = 9 ∧ 1 < c
    · rw [if_pos h1] at h; cases h
    · rw [if_neg h1] at h
      by_cases h2 : c < 128
      · rw [if_pos h2] at h
        by_cases h3 : c = 0 ∧ 0 < i
        · rw [if_pos h3] at h; cases h
        · rw [if_neg h3] at h
          simp only [Option.some.injEq, Prod.mk.injEq] at h
          obtain ⟨rfl, rfl⟩ := h
          exact ⟨c.toNat, by rw [encN_lt (by omega), Int.toNat_of_nonneg hc.1]; rfl, rfl, fun hi => by omega⟩
      · rw [if_neg h2] at h
        obtain ⟨m, e1, e2, e3⟩ := ih (i + 1) _ n r (fun x hx => hb x (List.mem_cons_of_mem _ hx)) h
        have e3 := e3 (by omega)
        refine ⟨(c.toNat - 128) + 128 * m, ?_, ?_, fun _ => by omega⟩
        · rw [encN_ge (by omega), show (c.toNat - 128 + 128 * m) / 128 = m by omega, show (((c.toNat - 128 + 128 * m : Nat) : Int) % 128 + 128) = c by omega, e1]
          rfl
        · rw [e2, pow128, Nat.add_mul, Nat.add_assoc, Nat.mul_comm 128 m, Nat.mul_assoc m]
theorem rNum_de : De rNum (Was encN (· < U64)) := by
  intro s r h
  cases s with
  | none => cases h
  | some l =>
    refine ⟨l, rfl, fun hb => ?_⟩
    have hlt := rNum_lt (s := some l) hb
    unfold Was
    revert h hlt
    cases hd : decGo 0 0 l with
    | none => rw [rNum_none hd]; intro h; cases h
    | some p =>
      obtain ⟨n, q⟩ := p
      rw [rNum_some hd]
      intro h hlt
      cases h
      obtain ⟨m, e1, e2, -⟩ := dec_can l 0 0 n _ hb hd
      have : n = m := by rw [e2]; simp
      subst this
      exact ⟨e1, hlt⟩
theorem rInt_de (most : Int) (hm : 0 ≤ most) : De (rInt most) (Was encN (fun n => (n : Int) ≤ most)) := by
  intro s r h
  unfold rInt at h ⊢
  by_cases hc : (rNum s).2.isNone ∨ most < 0 ∨ most < (rNum s).1
  · rw [if_pos hc] at h; cases h
  · rw [if_neg hc] at h ⊢
    obtain ⟨l, rfl, h2⟩ := rNum_de s r h
    exact ⟨l, rfl, fun hb => ⟨(h2 hb).1, by simp only [not_or] at hc; omega⟩⟩
theorem gI_de : De gI (Was encI UpI) := by
  intro s r h
  obtain ⟨l, rfl, h2⟩ := rInt_de 1099511627776 (by decide) s r h
  refine ⟨l, rfl, fun hb => ?_⟩
  obtain ⟨h3, h4⟩ := h2 hb
  exact ⟨by unfold gI; rw [encI_nat]; exact h3, by unfold gI UpI; exact ⟨by simp, h4⟩⟩
theorem rTake_de (n : Nat) : ∀ s r, (rTake n s).2 = some r → ∃ l, s = some l ∧ l = (rTake n s).1 ++ r ∧ (rTake n s).1.length = n := by
  intro s r h
  cases s with
  | none => cases h
  | some l =>
    refine ⟨l, rfl, ?_⟩
    simp only [rTake] at h ⊢
    split at h
    · cases h
    · rename_i hlt
      rw [if_neg hlt]
      simp only [Option.some.injEq] at h
      subst h
      exact ⟨(List.take_append_drop _ _).symm, by simp; omega⟩
theorem rHash_de : De rHash (Was (fun h => h) HK) := by
  intro s r h
  unfold rHash at h ⊢
  have h2 := rTake_de 32 s
  revert h h2
  generalize rTake 32 s = p
  obtain ⟨b, q⟩ := p
  cases q with
  | none => intro h; cases h
  | some q =>
    intro h h2
    cases h
    obtain ⟨l, rfl, e1, e2⟩ := h2 _ rfl
    refine ⟨l, rfl, fun hb => ⟨e1, e2, fun x hx => hb x ?_⟩⟩
    rw [e1]
    exact List.mem_append_left _ hx
theorem rRow_de (most : Int) (hm : 0 ≤ most) : De (rRow most) (Was (fun b => encN b.length ++ b) (fun b => (b.length : Int) ≤ most)) := by
  intro s r h
  unfold rRow at h ⊢
  obtain ⟨l1, e1, e2, e3⟩ := rTake_de _ _ _ h
  obtain ⟨l, rfl, h2⟩ := rInt_de most hm _ _ e1
  refine ⟨l, rfl, fun hb => ?_⟩
  obtain ⟨h3, h4⟩ := h2 hb
  refine ⟨?_, show ((rTake _ _).1.length : Int) ≤ most by rw [e3]; exact h4⟩
  show l = encN (rTake _ _).1.length ++ (rTake _ _).1 ++ r
  rw [e3, List.append_assoc, ← e2]
  exact h3
theorem De.bind {α β : Type} {g : RSt → α × RSt} {k : α → RSt → β × RSt} {put : α → List Int} {ok : α → Prop} {Q : α → β → List Int → List Int → Prop} (hg : De g (Was put ok)) (hk : ∀ a, De (k a) (Q a)) :
    De (gb g k) (fun y l r => ∃ a l1, ok a ∧ l = put a ++ l1 ∧ Q a y l1 r) := by
  intro s r h
  obtain ⟨l1, e1, h1⟩ := hk _ _ _ h
  obtain ⟨l, rfl, h2⟩ := hg _ _ e1
  refine ⟨l, rfl, fun hb => ?_⟩
  obtain ⟨h3, h4⟩ := h2 hb
  refine ⟨_, l1, h4, h3, h1 (fun x hx => hb x ?_)⟩
  rw [h3]
  exact List.mem_append_right _ hx
theorem De.pure {β : Type} (y : β) : De (fun s => (y, s)) (fun y' l r => y' = y ∧ l = r) := by
  intro s r h
  exact ⟨r, h, fun _ => ⟨rfl, rfl⟩⟩
theorem De.mono {β : Type} {g : RSt → β × RSt} {Q Q' : β → List Int → List Int → Prop} (h : De g Q) (hq : ∀ y l r, Q y l r → Q' y l r) : De g Q' := by
  intro s r hr
  obtain ⟨l, e, h2⟩ := h s r hr
  exact ⟨l, e, fun hb => hq _ _ _ (h2 hb)⟩
/-- lists -/
def listOk {α : Type} (ok : α → Prop) (l : List α) : Prop := l.length ≤ 100 ∧ ∀ a ∈ l, ok a
theorem gItems_ed {α : Type} {g : RSt → α × RSt} {put : α → List Int} {ok : α → Prop} (h : Ed g put ok) : ∀ (l acc : List α) (r : List Int), (∀ a ∈ l, ok a) → gItems g l.length acc (some ((l.map put).flatten ++ r)) = (acc ++ l, some r) := by
  intro l
  induction l with
  | nil => intro acc r _; simp [gItems]
  | cons a l ih =>
    intro acc r ha
    simp only [List.length_cons, List.map_cons, List.flatten_cons, List.append_assoc, gItems]
    rw [h a _ (ha a (List.mem_cons_self ..)), if_neg (by simp), ih _ _ (fun b hb => ha b (List.mem_cons_of_mem _ hb))]
    simp
theorem gList_ed {α : Type} {g : RSt → α × RSt} {put : α → List Int} {ok : α → Prop} (h : Ed g put ok) : Ed (gList g) (listB put) (listOk ok) := by
  intro l r ⟨h1, h2⟩
  unfold gList listB
  rw [List.append_assoc, encI_nat, rInt_enc (by unfold U64; omega), if_neg (by omega)]
  simpa using gItems_ed h l [] r h2
theorem De.none {α : Type} {g : RSt → α × RSt} {Q : α → List Int → List Int → Prop} (h : De g Q) : ∀ s, s = none → (g s).2 = none := by
  intro s e
  cases hq : (g s).2 with
  | none => rfl
  | some r => obtain ⟨l, e2, -⟩ := h s r hq; rw [e] at e2; cases e2
theorem gItems_de {α : Type} {g : RSt → α × RSt} {put : α → List Int} {ok : α → Prop} (h : De g (Was put ok)) : ∀ (n : Nat) (acc : List α) (s : RSt) (r : List Int), (gItems g n acc s).2 = some r →
    ∃ l, s = some l ∧ (Bytes l → ∃ t, (gItems g n acc s).1 = acc ++ t ∧ t.length = n ∧ l = (t.map put).flatten ++ r ∧ ∀ a ∈ t, ok a) := by
  intro n
  induction n with
  | zero =>
    intro acc s r hs
    exact ⟨r, hs, fun _ => ⟨[], by simp [gItems], rfl, rfl, by simp⟩⟩
  | succ n ih =>
    intro acc s r hs
    simp only [gItems] at hs ⊢
    by_cases hc : (g s).2 = none
    · rw [if_pos hc] at hs; cases hs
    · rw [if_neg hc] at hs ⊢
      obtain ⟨l1, e1, h1⟩ := ih _ _ _ hs
      obtain ⟨l, rfl, h2⟩ := h _ _ e1
      refine ⟨l, rfl, fun hb => ?_⟩
      obtain ⟨h3, h4⟩ := h2 hb
      obtain ⟨t, q1, q2, q3, q4⟩ := h1 (fun x hx => hb x (by rw [h3]; exact List.mem_append_right _ hx))
      refine ⟨(g (some l)).1 :: t, by rw [q1]; simp, by simp [q2], ?_, ?_⟩
      · rw [List.map_cons, List.flatten_cons, List.append_assoc, ← q3]; exact h3
      · intro a ha
        rcases List.mem_cons.1 ha with rfl | ha
        · exact h4
        · exact q4 a ha
theorem gList_de {α : Type} {g : RSt → α × RSt} {put : α → List Int} {ok : α → Prop} (h : De g (Was put ok)) : De (gList g) (Was (listB put) (listOk ok)) := by
  intro s r hs
  unfold gList at hs ⊢
  obtain ⟨l1, e1, h1⟩ := gItems_de h _ _ _ _ hs
  obtain ⟨l, rfl, h2⟩ := rInt_de 100 (by decide) _ _ e1
  refine ⟨l, rfl, fun hb => ?_⟩
  obtain ⟨h3, h4⟩ := h2 hb
  obtain ⟨t, q1, q2, q3, q4⟩ := h1 (fun x hx => hb x (by rw [h3]; exact List.mem_append_right _ hx))
  rw [List.nil_append] at q1
  rw [q1]
  refine ⟨?_, by omega, q4⟩
  unfold listB
  rw [q2, encI_nat, List.append_assoc, ← q3]
  exact h3
/-! printed -/
def sgB (p : Int × Int) : List Int := encI p.1 ++ encI p.2
def sgOk (p : Int × Int) : Prop := UpI p.1 ∧ UpI p.2
def CmOk (x : Cm) : Prop := UpI x.cl ∧ UpI x.sq ∧ HK x.h ∧ UpI x.ln ∧ UpI x.sb ∧ UpI x.mr
def StOk (x : St) : Prop := UpI x.rp ∧ UpI x.cl ∧ UpI x.sq ∧ HK x.h ∧ x.tm < U64 ∧ UpI x.sb ∧ UpI x.mr
def CeOk (x : Ce) : Prop := CmOk x.c ∧ listOk StOk x.l
def PmOk (x : Pm) : Prop := UpI x.rp ∧ UpI x.ep ∧ x.fl < U64 ∧ listOk CeOk x.l ∧ UpI x.sb ∧ UpI x.mr
def OpOk (x : Op) : Prop := UpI x.ix ∧ (x.pl.length : Int) ≤ 256 ∧ HK x.nc
def DnOk (x : Dn) : Prop := UpI x.rp ∧ UpI x.ix ∧ UpI x.sb ∧ UpI x.mr
def TbOk (x : Tb) : Prop := UpI x.ix ∧ listOk DnOk x.l
def BaOk (x : Ba) : Prop := UpI x.ep ∧ x.tm < U64 ∧ listOk PmOk x.ps ∧ listOk OpOk x.os ∧ listOk TbOk x.ts
def VtOk (x : Vt) : Prop := UpI x.kd ∧ UpI x.ep ∧ UpI x.rd ∧ UpI x.rp ∧ HK x.h ∧ UpI x.sb ∧ UpI x.mr
def EnOk (x : En) : Prop := UpI x.cl ∧ UpI x.sq ∧ HK x.h ∧ x.tm < U64
theorem gSig_ed : Ed gSig sgB sgOk := by
  intro x r ⟨h1, h2⟩
  simp only [gSig, gb, sgB, List.append_assoc, gI_ed _ _ h1, gI_ed _ _ h2]
theorem gSig_de : De gSig (Was sgB sgOk) := by
  refine (De.bind gI_de fun a => De.bind gI_de fun b => De.pure _).mono ?_
  rintro y l r ⟨a, l1, ha, rfl, b, l2, hb, rfl, rfl, rfl⟩
  exact ⟨by simp only [sgB, List.append_assoc], ha, hb⟩
theorem sgB_sig (a b : Int) : sgB (a, b) = sigB a b := rfl
theorem sgB_name (a b : Int) : sgB (a, b) = nameB a b := rfl
theorem gCm_ed : Ed gCm cmB CmOk := by
  intro x r h
  obtain ⟨hc, hs, hh, hl, hb, hm⟩ := h
  simp only [gCm, gb, cmB, ← sgB_sig, ← sgB_name, List.append_assoc, gSig_ed (x.cl, x.sq) _ ⟨hc, hs⟩, rHash_ed _ _ hh.1, gI_ed _ _ hl, gSig_ed (x.sb, x.mr) _ ⟨hb, hm⟩]
theorem gCm_de : De gCm (Was cmB CmOk) := by
  refine (De.bind gSig_de fun _ => De.bind rHash_de fun _ => De.bind gI_de fun _ => De.bind gSig_de fun _ => De.pure _).mono ?_
  rintro y l r ⟨a0, l0, h0, rfl, a1, l1, h1, rfl, a2, l2, h2, rfl, a3, l3, h3, rfl, rfl, rfl⟩
  refine ⟨by simp only [cmB, ← sgB_sig, ← sgB_name, List.append_assoc], h0.1, h0.2, h1, h2, h3.1, h3.2⟩
theorem gSt_ed : Ed gSt stB StOk := by
  intro x r h
  obtain ⟨hr, hc, hs, hh, ht, hb, hm⟩ := h
  simp only [gSt, gb, stB, ← sgB_sig, ← sgB_name, List.append_assoc, gI_ed _ _ hr, gSig_ed (x.cl, x.sq) _ ⟨hc, hs⟩, rHash_ed _ _ hh.1, rNum_ed _ _ ht, gSig_ed (x.sb, x.mr) _ ⟨hb, hm⟩]
theorem gSt_de : De gSt (Was stB StOk) := by
  refine (De.bind gI_de fun _ => De.bind gSig_de fun _ => De.bind rHash_de fun _ => De.bind rNum_de fun _ => De.bind gSig_de fun _ => De.pure _).mono ?_
  rintro y l r ⟨a0, l0, h0, rfl, a1, l1, h1, rfl, a2, l2, h2, rfl, a3, l3, h3, rfl, a4, l4, h4, rfl, rfl, rfl⟩
  refine ⟨by simp only [stB, ← sgB_sig, ← sgB_name, List.append_assoc], h0, h1.1, h1.2, h2, h3, h4.1, h4.2⟩
theorem gCe_ed : Ed gCe ceB CeOk := by
  intro x r h
  obtain ⟨hc, hl⟩ := h
  simp only [gCe, gb, ceB, ← sgB_sig, ← sgB_name, List.append_assoc, gCm_ed _ _ hc, gList_ed gSt_ed _ _ hl]
theorem gCe_de : De gCe (Was ceB CeOk) := by
  refine (De.bind gCm_de fun _ => De.bind (gList_de gSt_de) fun _ => De.pure _).mono ?_
  rintro y l r ⟨a0, l0, h0, rfl, a1, l1, h1, rfl, rfl, rfl⟩
  refine ⟨by simp only [ceB, ← sgB_sig, ← sgB_name, List.append_assoc], h0, h1⟩
theorem gPm_ed : Ed gPm pmB PmOk := by
  intro x r h
  obtain ⟨hr, he, hf, hl, hb, hm⟩ := h
  simp only [gPm, gb, pmB, ← sgB_sig, ← sgB_name, List.append_assoc, gI_ed _ _ hr, gI_ed _ _ he, rNum_ed _ _ hf, gList_ed gCe_ed _ _ hl, gSig_ed (x.sb, x.mr) _ ⟨hb, hm⟩]
theorem gPm_de : De gPm (Was pmB PmOk) := by
  refine (De.bind gI_de fun _ => De.bind gI_de fun _ => De.bind rNum_de fun _ => De.bind (gList_de gCe_de) fun _ => De.bind gSig_de fun _ => De.pure _).mono ?_
  rintro y l r ⟨a0, l0, h0, rfl, a1, l1, h1, rfl, a2, l2, h2, rfl, a3, l3, h3, rfl, a4, l4, h4, rfl, rfl, rfl⟩
  refine ⟨by simp only [pmB, ← sgB_sig, ← sgB_name, List.append_assoc], h0, h1, h2, h3, h4.1, h4.2⟩
theorem rowx {b r : List Int} (h : (b.length : Int) ≤ 256) : rRow 256 (some (encN b.length ++ (b ++ r))) = (b, some r) := by
  have := rRow_ed 256 (by decide) b r h
  simpa only [List.append_assoc] using this
theorem gOp_ed : Ed gOp opB OpOk := by
  intro x r h
  obtain ⟨hi, hp, hn⟩ := h
  simp only [gOp, gb, opB, ← sgB_sig, ← sgB_name, List.append_assoc, gI_ed _ _ hi, rowx hp, rHash_ed _ _ hn.1]
theorem gOp_de : De gOp (Was opB OpOk) := by
  refine (De.bind gI_de fun _ => De.bind (rRow_de 256 (by decide)) fun _ => De.bind rHash_de fun _ => De.pure _).mono ?_
  rintro y l r ⟨a0, l0, h0, rfl, a1, l1, h1, rfl, a2, l2, h2, rfl, rfl, rfl⟩
  refine ⟨by simp only [opB, ← sgB_sig, ← sgB_name, List.append_assoc], h0, h1, h2⟩
theorem gDn_ed : Ed gDn dnB DnOk := by
  intro x r h
  obtain ⟨hr, hi, hb, hm⟩ := h
  simp only [gDn, gb, dnB, ← sgB_sig, ← sgB_name, List.append_assoc, gI_ed _ _ hr, gI_ed _ _ hi, gSig_ed (x.sb, x.mr) _ ⟨hb, hm⟩]
theorem gDn_de : De gDn (Was dnB DnOk) := by
  refine (De.bind gI_de fun _ => De.bind gI_de fun _ => De.bind gSig_de fun _ => De.pure _).mono ?_
  rintro y l r ⟨a0, l0, h0, rfl, a1, l1, h1, rfl, a2, l2, h2, rfl, rfl, rfl⟩
  refine ⟨by simp only [dnB, ← sgB_sig, ← sgB_name, List.append_assoc], h0, h1, h2.1, h2.2⟩
theorem gTb_ed : Ed gTb tbB TbOk := by
  intro x r h
  obtain ⟨hi, hl⟩ := h
  simp only [gTb, gb, tbB, ← sgB_sig, ← sgB_name, List.append_assoc, gI_ed _ _ hi, gList_ed gDn_ed _ _ hl]
theorem gTb_de : De gTb (Was tbB TbOk) := by
  refine (De.bind gI_de fun _ => De.bind (gList_de gDn_de) fun _ => De.pure _).mono ?_
  rintro y l r ⟨a0, l0, h0, rfl, a1, l1, h1, rfl, rfl, rfl⟩
  refine ⟨by simp only [tbB, ← sgB_sig, ← sgB_name, List.append_assoc], h0, h1⟩
theorem gBa_ed : Ed gBa baB BaOk := by
  intro x r h
  obtain ⟨he, ht, hp, ho, hb⟩ := h
  simp only [gBa, gb, baB, ← sgB_sig, ← sgB_name, List.append_assoc, gI_ed _ _ he, rNum_ed _ _ ht, gList_ed gPm_ed _ _ hp, gList_ed gOp_ed _ _ ho, gList_ed gTb_ed _ _ hb]
theorem gBa_de : De gBa (Was baB BaOk) := by
  refine (De.bind gI_de fun _ => De.bind rNum_de fun _ => De.bind (gList_de gPm_de) fun _ => De.bind (gList_de gOp_de) fun _ => De.bind (gList_de gTb_de) fun _ => De.pure _).mono ?_
  rintro y l r ⟨a0, l0, h0, rfl, a1, l1, h1, rfl, a2, l2, h2, rfl, a3, l3, h3, rfl, a4, l4, h4, rfl, rfl, rfl⟩
  refine ⟨by simp only [baB, ← sgB_sig, ← sgB_name, List.append_assoc], h0, h1, h2, h3, h4⟩
theorem gVt_ed : Ed gVt vtB VtOk := by
  intro x r h
  obtain ⟨hk, he, hr, hp, hh, hb, hm⟩ := h
  simp only [gVt, gb, vtB, ← sgB_sig, ← sgB_name, List.append_assoc, gI_ed _ _ hk, gI_ed _ _ he, gI_ed _ _ hr, gI_ed _ _ hp, rHash_ed _ _ hh.1, gSig_ed (x.sb, x.mr) _ ⟨hb, hm⟩]
theorem gVt_de : De gVt (Was vtB VtOk) := by
  refine (De.bind gI_de fun _ => De.bind gI_de fun _ => De.bind gI_de fun _ => De.bind gI_de fun _ => De.bind rHash_de fun _ => De.bind gSig_de fun _ => De.pure _).mono ?_
  rintro y l r ⟨a0, l0, h0, rfl, a1, l1, h1, rfl, a2, l2, h2, rfl, a3, l3, h3, rfl, a4, l4, h4, rfl, a5, l5, h5, rfl, rfl, rfl⟩
  refine ⟨by simp only [vtB, ← sgB_sig, ← sgB_name, List.append_assoc], h0, h1, h2, h3, h4, h5.1, h5.2⟩
theorem gEn_ed : Ed gEn enB EnOk := by
  intro x r h
  obtain ⟨hc, hs, hh, ht⟩ := h
  simp only [gEn, gb, enB, ← sgB_sig, ← sgB_name, List.append_assoc, gSig_ed (x.cl, x.sq) _ ⟨hc, hs⟩, rHash_ed _ _ hh.1, rNum_ed _ _ ht]
theorem gEn_de : De gEn (Was enB EnOk) := by
  refine (De.bind gSig_de fun _ => De.bind rHash_de fun _ => De.bind rNum_de fun _ => De.pure _).mono ?_
  rintro y l r ⟨a0, l0, h0, rfl, a1, l1, h1, rfl, a2, l2, h2, rfl, rfl, rfl⟩
  refine ⟨by simp only [enB, ← sgB_sig, ← sgB_name, List.append_assoc], h0.1, h0.2, h1, h2⟩
end Go.Proofs.Ytpnikilkcifncaa

/- gavelref01.Reader: numbers, rows, hashes as the document reads them; code.Reader.Row for any bound. -/
namespace Go.Proofs.Ytpnikilkcifncaa
open Go Go.RowKit Go.Gv

end Go.Proofs.Ytpnikilkcifncaa

/- gavelref01.Reader: rows. -/
namespace Go.Proofs.Ytpnikilkcifncaa
open Go Go.RowKit Go.Gv

end Go.Proofs.Ytpnikilkcifncaa

/- gavelref01.Reader: hashes. -/
namespace Go.Proofs.Ytpnikilkcifncaa
open Go Go.RowKit Go.Gv

section
variable {R : Nat → Prop} {r : Nat} {s : RSt} {w : World}
end
end Go.Proofs.Ytpnikilkcifncaa

/- code.Reader.Row with any bound, over a text that is not long. -/
namespace Go.Proofs.Ytpnikilkcifncaa
open Go Go.RowKit Go.Gv

end Go.Proofs.Ytpnikilkcifncaa

/- A block's cells as parts, one behind the other: what lies at a part, what is laid over one, what a struct is built of. No program here. -/
namespace Go.Gv
open Go Go.RowKit

theorem seg_get : ∀ (segs : List (List Value)) (i : Nat) {seg : List Value} (hs : segs[i]? = some seg) (j : Nat) (u : Value), seg[j]? = some u → segs.flatten[((segs.map List.length).take i).sum + j]? = some u
  | [], i, seg, hs, j, u, hu => by simp at hs
  | a :: r, 0, seg, hs, j, u, hu => by
    simp only [List.getElem?_cons_zero, Option.some.injEq] at hs
    subst hs
    rw [List.take_zero, List.sum_nil, Nat.zero_add, List.flatten_cons, List.getElem?_append_left (List.getElem?_eq_some_iff.1 hu).1]
    exact hu
  | a :: r, i + 1, seg, hs, j, u, hu => by
    rw [List.getElem?_cons_succ] at hs
    rw [List.map_cons, List.take_succ_cons, List.sum_cons, List.flatten_cons, List.getElem?_append_right (by omega), show a.length + ((r.map List.length).take i).sum + j - a.length = ((r.map List.length).take i).sum + j by omega]
    exact seg_get r i hs j u hu
theorem Cs.seg {w : World} {g : Nat} {T : TypeId} {segs : List (List Value)} (h : Cs w g segs.flatten.toArray T) {ns : List Nat} (hn : segs.map List.length = ns) (i : Nat) {seg : List Value} (hs : segs[i]? = some seg) {off : Nat} (ho : (ns.take i).sum = off) : ∀ j u, seg[j]? = some u → w.cell? ⟨g, off + j, none⟩ = some u := by
  intro j u hu
  rw [h.cell, ← ho, ← hn]
  simpa using seg_get segs i hs j u hu
theorem Cs.seg1 {w : World} {g : Nat} {T : TypeId} {segs : List (List Value)} (h : Cs w g segs.flatten.toArray T) {ns : List Nat} (hn : segs.map List.length = ns) (i : Nat) {seg : List Value} (hs : segs[i]? = some seg) {off o k : Nat} (ho : (ns.take i).sum = o) (hk : off = o + k) {u : Value} (hu : seg[k]? = some u) : w.cell? ⟨g, off, none⟩ = some u := by
  subst hk
  exact h.seg hn i hs ho k u hu
theorem lay_mid (a m b : List Value) (vs : List Value) (h : vs.length = m.length) : lay (a ++ (m ++ b)).toArray a.length vs = (a ++ (vs ++ b)).toArray := by
  unfold lay
  congr 1
  simp [h]
theorem seg_split : ∀ (segs : List (List Value)) (i : Nat) {seg : List Value} (hs : segs[i]? = some seg), ∃ a b, segs.flatten = a ++ (seg ++ b) ∧ a.length = ((segs.map List.length).take i).sum ∧ ∀ v : List Value, (segs.set i v).flatten = a ++ (v ++ b)
  | [], i, seg, hs => by simp at hs
  | x :: r, 0, seg, hs => by
    simp only [List.getElem?_cons_zero, Option.some.injEq] at hs
    subst hs
    exact ⟨[], r.flatten, rfl, rfl, fun v => rfl⟩
  | x :: r, i + 1, seg, hs => by
    rw [List.getElem?_cons_succ] at hs
    obtain ⟨a, b, h1, h2, h3⟩ := seg_split r i hs
    refine ⟨x ++ a, b, by rw [List.flatten_cons, h1, List.append_assoc], by simp [h2], fun v => ?_⟩
    rw [List.set_cons_succ, List.flatten_cons, h3, List.append_assoc]
theorem lay_seg {segs : List (List Value)} {ns : List Nat} (hn : segs.map List.length = ns) (i : Nat) {vs : List Value} (hv : ns[i]? = some vs.length) {off : Nat} (ho : (ns.take i).sum = off) : lay segs.flatten.toArray off vs = ((segs.set i vs).flatten).toArray := by
  subst hn
  rw [List.getElem?_map] at hv
  cases hs : segs[i]? with
  | none => rw [hs] at hv; cases hv
  | some seg =>
    rw [hs] at hv
    simp only [Option.map_some, Option.some.injEq] at hv
    obtain ⟨a, b, h1, h2, h3⟩ := seg_split segs i hs
    rw [h1, h3, ← ho, ← h2]
    exact lay_mid a seg b vs hv.symm
/-- where parts of such lengths lie -/
def offs : Nat → List Nat → List (Nat × Nat)
  | _, [] => []
  | o, n :: ns => (o, n) :: offs (o + n) ns
theorem offs_get : ∀ (ns : List Nat) (o i : Nat), (offs o ns)[i]? = (ns[i]?).map fun n => (o + (ns.take i).sum, n)
  | [], o, i => by simp [offs]
  | n :: ns, o, 0 => by simp [offs]
  | n :: ns, o, i + 1 => by
    simp only [offs, List.getElem?_cons_succ, offs_get ns (o + n) i, List.take_succ_cons, List.sum_cons]
    congr 1
    funext m
    rw [Nat.add_assoc]
/-- parts, each where it belongs -/
def setAll : List (List Value) → List (Nat × Value) → List (List Value)
  | segs, [] => segs
  | segs, (i, v) :: ps => setAll (segs.set i v.cells.toList) ps
def PartsOk (ns : List Nat) : List (Nat × Value) → Prop
  | [] => True
  | (i, v) :: ps => ns[i]? = some v.cells.size ∧ PartsOk ns ps
theorem set_lens {segs : List (List Value)} {ns : List Nat} (hn : segs.map List.length = ns) (i : Nat) {vs : List Value} (hv : ns[i]? = some vs.length) : (segs.set i vs).map List.length = ns := by
  subst hn
  rw [List.map_set]
  exact List.ext_getElem? fun j => by
    rcases Nat.lt_trichotomy i j with h | h | h
    · rw [List.getElem?_set_ne (by omega)]
    · subst h
      rw [List.getElem?_set_self (List.getElem?_eq_some_iff.1 hv).1, hv]
    · rw [List.getElem?_set_ne (by omega)]
theorem laid_segs {places : List (Nat × Nat)} {ns : List Nat} (hp : places = offs 0 ns) : ∀ (parts : List (Nat × Value)) (segs : List (List Value)), segs.map List.length = ns → PartsOk ns parts → laid places segs.flatten parts = some (setAll segs parts).flatten
  | [], segs, _, _ => by unfold laid setAll; rfl
  | (i, v) :: ps, segs, hn, h => by
    obtain ⟨h1, h2⟩ := h
    have h1' : ns[i]? = some v.cells.toList.length := by simpa using h1
    have hl := lay_seg hn i h1' rfl
    unfold laid setAll
    rw [hp, offs_get, h1]
    simp only [Option.map_some, Nat.zero_add]
    have hlen : (ns.take i).sum + v.cells.size ≤ segs.flatten.length := by
      subst hn
      rw [List.getElem?_map] at h1
      cases hs : segs[i]? with
      | none => rw [hs] at h1; cases h1
      | some seg =>
        rw [hs] at h1
        simp only [Option.map_some, Option.some.injEq] at h1
        obtain ⟨a, b, e1, e2, -⟩ := seg_split segs i hs
        rw [e1, ← e2, ← h1]
        simp
    rw [if_neg (by omega)]
    have e : (segs.flatten.take (ns.take i).sum ++ v.cells.toList ++ segs.flatten.drop ((ns.take i).sum + v.cells.size)) = (segs.set i v.cells.toList).flatten := by
      have := congrArg Array.toList hl
      simpa [lay] using this
    simp only [e] at *
    rw [← hp]
    exact laid_segs hp ps _ (set_lens hn i h1') h2
end Go.Gv

/- Readers of parts: what they leave of a text, whether what they read is a thing of its kind; contracts. -/
namespace Go.Proofs.Ytpnikilkcifncaa
open Go Go.RowKit Go.Gv

/-- what is left is an end of what there was -/
def Suf {α : Type} (g : RSt → α × RSt) : Prop := ∀ s, (g s).2 = none ∨ ∃ l k, s = some l ∧ (g s).2 = some (l.drop k)
theorem Suf.no {α : Type} {g : RSt → α × RSt} (h : Suf g) : (g none).2 = none := by
  rcases h none with h | ⟨l, k, e, -⟩
  · exact h
  · cases e
theorem Suf.bytes {α : Type} {g : RSt → α × RSt} (h : Suf g) {s : RSt} (hb : Bytes (s.getD [])) : Bytes ((g s).2.getD []) := by
  rcases h s with e | ⟨l, k, rfl, e⟩
  · rw [e]; exact Bytes.nil
  · rw [e]; exact Bytes.drop hb k
theorem Suf.len {α : Type} {g : RSt → α × RSt} (h : Suf g) (s : RSt) : ((g s).2.getD []).length ≤ (s.getD []).length := by
  rcases h s with e | ⟨l, k, rfl, e⟩
  · rw [e]; simp
  · rw [e]; simp
theorem gb_suf {α β : Type} {g : RSt → α × RSt} {k : α → RSt → β × RSt} (hg : Suf g) (hk : ∀ a, Suf (k a)) : Suf (gb g k) := by
  intro s
  rcases hg s with e | ⟨l, i, rfl, e⟩
  · left
    unfold gb
    rw [e]
    exact (hk _).no
  · rcases hk (g (some l)).1 (g (some l)).2 with e2 | ⟨l2, j, e2, e3⟩
    · exact Or.inl e2
    · rw [e] at e2
      cases e2
      exact Or.inr ⟨l, i + j, rfl, by rw [← List.drop_drop]; exact e3⟩
theorem pure_suf {β : Type} (y : β) : Suf (fun s => (y, s)) := by
  intro s
  cases s with
  | none => exact Or.inl rfl
  | some l => exact Or.inr ⟨l, 0, rfl, rfl⟩
theorem rNum_suf : Suf rNum := by
  intro s
  cases s with
  | none => exact Or.inl rfl
  | some l =>
    cases hd : decGo 0 0 l with
    | none => rw [rNum_none hd]; exact Or.inl rfl
    | some p =>
      obtain ⟨n, q⟩ := p
      obtain ⟨k, -, -, rfl⟩ := decGo_rest l 0 0 n q hd
      rw [rNum_some hd]
      exact Or.inr ⟨l, k, rfl, rfl⟩
theorem rInt_suf (most : Int) : Suf (rInt most) := by
  intro s
  unfold rInt
  split
  · exact Or.inl rfl
  · exact rNum_suf s
theorem gI_suf : Suf gI := fun s => rInt_suf _ s
theorem rTake_suf (n : Nat) : Suf (rTake n) := by
  intro s
  cases s with
  | none => exact Or.inl rfl
  | some l =>
    simp only [rTake]
    split
    · exact Or.inl rfl
    · exact Or.inr ⟨l, n, rfl, rfl⟩
theorem rHash_suf : Suf rHash := by
  intro s
  have h := rTake_suf 32 s
  unfold rHash
  revert h
  generalize rTake 32 s = p
  obtain ⟨b, q⟩ := p
  cases q with
  | none => intro _; exact Or.inl rfl
  | some q => intro h; exact h
theorem rRow_suf (most : Int) : Suf (rRow most) := by
  intro s
  unfold rRow
  exact gb_suf (g := rInt most) (k := fun n => rTake n) (rInt_suf most) (fun n => rTake_suf n) s
theorem gItems_suf {α : Type} {g : RSt → α × RSt} (hg : Suf g) : ∀ (n : Nat) (acc : List α), Suf (gItems g n acc)
  | 0, acc => pure_suf acc
  | n + 1, acc => by
    intro s
    simp only [gItems]
    split
    · exact Or.inl rfl
    · exact gb_suf hg (fun a => gItems_suf hg n (acc ++ [a])) s
theorem gList_suf {α : Type} {g : RSt → α × RSt} (hg : Suf g) : Suf (gList g) := by
  intro s
  exact gb_suf (g := rInt 100) (k := fun n => gItems g n []) (rInt_suf 100) (fun n => gItems_suf hg n []) s
theorem gSig_suf : Suf gSig := gb_suf gI_suf fun _ => gb_suf gI_suf fun _ => pure_suf _
theorem gCm_suf : Suf gCm := gb_suf gSig_suf fun _ => gb_suf rHash_suf fun _ => gb_suf gI_suf fun _ => gb_suf gSig_suf fun _ => pure_suf _
theorem gSt_suf : Suf gSt := gb_suf gI_suf fun _ => gb_suf gSig_suf fun _ => gb_suf rHash_suf fun _ => gb_suf rNum_suf fun _ => gb_suf gSig_suf fun _ => pure_suf _
theorem gCe_suf : Suf gCe := gb_suf gCm_suf fun _ => gb_suf (gList_suf gSt_suf) fun _ => pure_suf _
theorem gPm_suf : Suf gPm := gb_suf gI_suf fun _ => gb_suf gI_suf fun _ => gb_suf rNum_suf fun _ => gb_suf (gList_suf gCe_suf) fun _ => gb_suf gSig_suf fun _ => pure_suf _
theorem gOp_suf : Suf gOp := gb_suf gI_suf fun _ => gb_suf (rRow_suf _) fun _ => gb_suf rHash_suf fun _ => pure_suf _
theorem gDn_suf : Suf gDn := gb_suf gI_suf fun _ => gb_suf gI_suf fun _ => gb_suf gSig_suf fun _ => pure_suf _
theorem gTb_suf : Suf gTb := gb_suf gI_suf fun _ => gb_suf (gList_suf gDn_suf) fun _ => pure_suf _
theorem gBa_suf : Suf gBa := gb_suf gI_suf fun _ => gb_suf rNum_suf fun _ => gb_suf (gList_suf gPm_suf) fun _ => gb_suf (gList_suf gOp_suf) fun _ => gb_suf (gList_suf gTb_suf) fun _ => pure_suf _
theorem gVt_suf : Suf gVt := gb_suf gI_suf fun _ => gb_suf gI_suf fun _ => gb_suf gI_suf fun _ => gb_suf gI_suf fun _ => gb_suf rHash_suf fun _ => gb_suf gSig_suf fun _ => pure_suf _
/-! what is read is a thing -/
theorem gI_I64 (s : RSt) : I64 (gI s).1 := by
  have := rInt_le 1099511627776 s
  unfold gI I64
  simp only
  omega
theorem rHash_HK {s : RSt} (hb : Bytes (s.getD [])) : HK (rHash s).1 := by
  refine ⟨rHash_l s, ?_⟩
  cases s with
  | none => intro x hx; simp [rHash, rTake] at hx; subst hx; decide
  | some l =>
    by_cases h : l.length < 32
    · have e : rHash (some l) = (List.replicate 32 0, none) := by simp [rHash, rTake, h]
      rw [e]
      intro x hx
      simp at hx
      subst hx
      decide
    · have e : rHash (some l) = (l.take 32, some (l.drop 32)) := by simp [rHash, rTake, h]
      rw [e]
      exact Bytes.take hb 32
theorem gCm_OK {s : RSt} (hb : Bytes (s.getD [])) : (gCm s).1.OK := ⟨⟨gI_I64 _, gI_I64 _, gI_I64 _, gI_I64 _, gI_I64 _⟩, rHash_HK (gSig_suf.bytes hb)⟩
theorem gSt_OK {s : RSt} (hb : Bytes (s.getD [])) : (gSt s).1.OK := ⟨gI_I64 _, gI_I64 _, gI_I64 _, rHash_HK (gSig_suf.bytes (gI_suf.bytes hb)), rNum_lt (rHash_suf.bytes (gSig_suf.bytes (gI_suf.bytes hb))), gI_I64 _, gI_I64 _⟩
theorem gDn_OK {s : RSt} (hb : Bytes (s.getD [])) : (gDn s).1.OK := ⟨gI_I64 _, gI_I64 _, gI_I64 _, gI_I64 _⟩
theorem gVt_OK {s : RSt} (hb : Bytes (s.getD [])) : (gVt s).1.OK := ⟨gI_I64 _, gI_I64 _, gI_I64 _, gI_I64 _, rHash_HK (gI_suf.bytes (gI_suf.bytes (gI_suf.bytes (gI_suf.bytes hb)))), gI_I64 _, gI_I64 _⟩
theorem gEn_OK {s : RSt} (hb : Bytes (s.getD [])) : (gEn s).1.OK := ⟨gI_I64 _, gI_I64 _, rHash_HK (gSig_suf.bytes hb), rNum_lt (rHash_suf.bytes (gSig_suf.bytes hb))⟩
theorem gCe_OK {s : RSt} (hb : Bytes (s.getD [])) : (gCe s).1.OK := gCm_OK hb
theorem gPm_OK {s : RSt} (hb : Bytes (s.getD [])) : (gPm s).1.OK := ⟨gI_I64 _, gI_I64 _, rNum_lt (gI_suf.bytes (gI_suf.bytes hb)), gI_I64 _, gI_I64 _⟩
theorem gOp_OK {s : RSt} (hb : Bytes (s.getD [])) : (gOp s).1.OK := ⟨gI_I64 _, rHash_HK ((rRow_suf 256).bytes (gI_suf.bytes hb))⟩
theorem gTb_OK {s : RSt} (hb : Bytes (s.getD [])) : (gTb s).1.OK := gI_I64 _
theorem gBa_OK {s : RSt} (hb : Bytes (s.getD [])) : (gBa s).1.OK := ⟨gI_I64 _, rNum_lt (gI_suf.bytes hb)⟩
theorem RrR.bytes {T : TypeId} {R : Nat → Prop} {w : World} {r : Nat} {s : RSt} (h : RrR T R w r s) : Bytes (s.getD []) := by
  obtain ⟨v, h1, -⟩ := h
  exact h1.2.1.1
theorem szv {cs : List Value} {n : Nat} (h : cs.length = n) : some n = some (Value.agg cs.toArray).cells.size := by rw [← h]; rfl
/-! contracts -/
/-- a flat thing is read -/
def GetsF {α : Type} (T : TypeId) (F : FuncId) (cells : α → List Value) (g : RSt → α × RSt) : Prop := ∀ (R : Nat → Prop) (r : Nat) (s : RSt) (w : World), RrR T R w r s → (∀ k, R k → k < w.heap.size) →
  Calls Try.prog F #[.pointer (some ⟨r, 0, none⟩)] w fun e w' => e = .returned (.agg (cells (g s).1).toArray) ∧ RrR T R w' r (g s).2 ∧ Mod R w w'
/-- a thing is read -/
def Gets {α : Type} (A : Rep α) (T : TypeId) (F : FuncId) (g : RSt → α × RSt) : Prop := ∀ (R : Nat → Prop) (r : Nat) (s : RSt) (w : World), RrR T R w r s → (∀ k, R k → k < w.heap.size) → (s.getD []).length ≤ 900000 →
  Calls Try.prog F #[.pointer (some ⟨r, 0, none⟩)] w fun e w' => ∃ cs, e = .returned (.agg cs.toArray) ∧ A.rd (New w w') w' cs (g s).1 ∧ RrR T R w' r (g s).2 ∧ Mod R w w'
/-- a list of things is read -/
def GetsL {α : Type} (A : Rep α) (T : TypeId) (F Fe : FuncId) (g : RSt → α × RSt) : Prop := ∀ (R : Nat → Prop) (r : Nat) (s : RSt) (w : World), RrR T R w r s → (∀ k, R k → k < w.heap.size) → (s.getD []).length ≤ 900000 →
  Calls Try.prog F #[.pointer (some ⟨r, 0, none⟩), .func (.func Fe) #[] #[]] w fun e w' => ∃ v, e = .returned v ∧ RdS A (New w w') w' v (gList g s).1 ∧ RrR T R w' r (gList g s).2 ∧ Mod R w w'
theorem Gets.to {α : Type} {A : Rep α} {T : TypeId} {F : FuncId} {g : RSt → α × RSt} (h : Gets A T F g) {s s' : RSt} {x : α} (hx : (g s).1 = x) (hs : (g s).2 = s') {R : Nat → Prop} {r : Nat} {w : World} (h1 : RrR T R w r s) (h2 : ∀ k, R k → k < w.heap.size) (h3 : (s.getD []).length ≤ 900000) :
    Calls Try.prog F #[.pointer (some ⟨r, 0, none⟩)] w fun e w' => ∃ cs, e = .returned (.agg cs.toArray) ∧ A.rd (New w w') w' cs x ∧ RrR T R w' r s' ∧ Mod R w w' := by
  subst hx hs
  exact h R r s w h1 h2 h3
theorem GetsF.to {α : Type} {cells : α → List Value} {T : TypeId} {F : FuncId} {g : RSt → α × RSt} (h : GetsF T F cells g) {A : Rep α} (hA : ∀ (R : Nat → Prop) (w : World) (s : RSt), Bytes (s.getD []) → A.rd R w (cells (g s).1) (g s).1) : Gets A T F g := by
  intro R r s w h1 h2 h3
  exact (h R r s w h1 h2).mono fun e w' ⟨he, h4, h5⟩ => ⟨_, he, hA _ _ s h1.bytes, h4, h5⟩
section
variable {R : Nat → Prop} {r : Nat} {s : RSt} {w : World}
theorem cI_Q (h : RrR 183 R w r s) : Calls Try.prog 63 #[.pointer (some ⟨r, 0, none⟩), .int .i64 1099511627776] w fun e w' => e = .returned (.int .i64 (gI s).1) ∧ RrR 183 R w' r (gI s).2 ∧ Mod R w w' := RInt_R h (by decide)
theorem cRow_Q (h : RrR 183 R w r s) : Calls Try.prog 109 #[.pointer (some ⟨r, 0, none⟩), .int .i64 256] w fun e w' => ∃ v', e = .returned v' ∧ RdR (New w w') (rRow 256 s).1.length w' v' (rRow 256 s).1 ∧ RrR 183 R w' r (rRow 256 s).2 ∧ Mod R w w' :=
  (RRow_R h (by decide)).mono fun _ _ ⟨v', he, ho, h2, h3⟩ => ⟨v', he, ⟨ho.rd.1, ho.rd.2.1, Nat.le_refl _⟩, h2, h3⟩
end
end Go.Proofs.Ytpnikilkcifncaa

/- gavelref01.join: bytes, one behind the other; a region that joins what calls answer. -/
namespace Go.Gv
open Go Go.RowKit
section
variable {P : Program} {o : Oper} {a : Act} {w w' : World}
end
/-- marks turn no cell -/
theorem Marked.cell {B : Nat} {T8 : TypeId} {w w' : World} (hm : Marked B T8 w w') {p : Addr} {u : Value} (h : w.cell? p = some u) : w'.cell? p = some u := by
  have hlt := World.block_lt_of_cell? _ _ h
  rcases hm.block p.block hlt with h1 | ⟨-, C, m, h1, h2⟩
  · exact (World.cell?_of_block h1).trans h
  · unfold World.cell? at h ⊢
    rw [h1] at h
    rw [h2]
    exact h
theorem Rd.cells {s n : Nat} {w w' : World} {v : Value} {cs : List Value} (h : Rd s w v n cs) (hc : ∀ p u, w.cell? p = some u → w'.cell? p = some u) : Rd s w' v n cs := by
  obtain ⟨hl, ao, cap, rfl, h1, h2, h3, h4⟩ := h
  exact ⟨hl, ao, cap, rfl, h1, h2, h3, fun x hx j u hu => ⟨(h4 x hx j u hu).1, hc _ _ (h4 x hx j u hu).2⟩⟩
theorem Rd.old {s n : Nat} {w : World} {v : Value} {cs : List Value} (hs : 0 < s) (h : Rd s w v n cs) (h0 : 0 < n) : ∀ g, v.ownBlock = some g → g < w.heap.size := by
  rcases h.form hs with ⟨rfl, _⟩ | ⟨g, o, cap, _, rfl, _, _, hl, hc⟩
  · omega
  · intro g' hg
    have e : g = g' := by simpa [Value.ownBlock] using hg
    subst e
    have hlt : 0 < cs.length := by rw [hl]; exact Nat.mul_pos h0 hs
    exact World.block_lt_of_cell? _ _ (hc 0 _ (List.getElem?_eq_getElem hlt))
end Go.Gv
namespace Go.Proofs.Ytpnikilkcifncaa
open Go Go.RowKit Go.Gv

theorem RdB.cells {w w' : World} {v : Value} {bs : List Int} (h : RdB w v bs) (hc : ∀ p u, w.cell? p = some u → w'.cell? p = some u) : RdB w' v bs := ⟨h.1, h.2.cells hc⟩
/-- rows of bytes: the outer list, and each row where it lies -/
structure RdJ (w : World) (v : Value) (rs : List (Value × List Int)) : Prop where
  o : Rd 1 w v rs.length (rs.map (·.1))
  f : ∀ p ∈ rs, RdB w p.1 p.2
theorem RdJ.cells {w w' : World} {v : Value} {rs : List (Value × List Int)} (h : RdJ w v rs) (hc : ∀ p u, w.cell? p = some u → w'.cell? p = some u) : RdJ w' v rs := ⟨h.o.cells hc, fun p hp => (h.f p hp).cells hc⟩
theorem RdJ.shape {w : World} {v : Value} {rs : List (Value × List Int)} (h : RdJ w v rs) : ∃ ao cap, v = .slice ao rs.length cap := by
  obtain ⟨_, ao, cap, e, _⟩ := h.o
  exact ⟨ao, cap, e⟩
theorem RdJ.at {w : World} {ao : Option Addr} {n cap : Nat} {rs : List (Value × List Int)} (h : RdJ w (.slice ao n cap) rs) {i : Nat} (hi : i < rs.length) :
    ∃ g o, ao = some ⟨g, o, none⟩ ∧ g < w.heap.size ∧ w.cell? ⟨g, o + i, none⟩ = some rs[i].1 := by
  rcases h.o.form (by decide) with ⟨h0, _⟩ | ⟨g, o, cap', h0, hv, h1, h2, hl, hc⟩
  · omega
  · simp only [Value.slice.injEq] at hv
    obtain ⟨rfl, rfl, rfl⟩ := hv
    exact ⟨g, o, rfl, h.o.old (by decide) h0 g rfl, hc i _ (by simp [List.getElem?_eq_getElem hi])⟩
/-- a new outer list -/
theorem RdJ.new {w : World} {e : TypeId} {rs : List (Value × List Int)} (h : ∀ p ∈ rs, RdB w p.1 p.2) (hl : rs.length ≤ 1000) {C : Array Value} (hC : C = (rs.map (·.1)).toArray) {n : Nat} (hn : n = rs.length) : RdJ (w.alloc (.cells C e)) (.slice (some ⟨w.heap.size, 0, none⟩) n n) rs := by
  subst hC
  subst hn
  refine ⟨Rd.mk (Nat.le_refl _) (by rw [maxLen_val]; omega) (by simp) fun j y hy => ?_, fun p hp => (h p hp).alloc _⟩
  rw [Nat.zero_add, (Cs.new w _ e).cell]
  simpa using hy
def flat (rs : List (Value × List Int)) : List Int := (rs.map (·.2)).flatten
theorem litG.rd {B K : Nat} {bs : List Int} {t : List Value} {v : Value} {w : World} (h : litG B 5 K (bs.map bv).toArray t v w) (hk : t.length ≤ K) (hb : Bytes bs) (hl : bs.length ≤ 1000000) : RdB w v bs := by
  obtain ⟨g, rfl, -, m, -, h4⟩ := h hk
  have e : (bs.map bv).toArray.size = bs.length := by simp
  rw [e]
  refine ⟨hb, Rd.mk (Nat.le_refl _) (by rw [maxLen_val]; omega) (by simp) fun j y hy => ?_⟩
  rw [Nat.zero_add]
  simp only [World.cell?, h4]
  simpa using hy
theorem StillM.obj {B K k : Nat} {w w' : World} (h : StillM B 5 K k w w') {g : Nat} {c : Array Value} {e : TypeId} (hc : Cs w g c e) (he : e ≠ 5) : Cs w' g c e := by
  rcases h with h | ⟨-, h⟩
  · exact hc.mod h (fun h => h)
  · rcases h.block g hc.lt with h1 | ⟨-, C, m, h1, -⟩
    · exact h1.trans hc
    · unfold Cs at hc
      rw [hc] at h1
      cases h1
      exact absurd rfl he
end Go.Proofs.Ytpnikilkcifncaa

/- Bytes in regions told step by step: appends, rows of rows, strings as bytes, writers' ends. -/
namespace Go.Proofs.Ytpnikilkcifncaa
open Go Go.RowKit Go.Gv

section
variable {ops : Array Oper} {Q : Exit → Act → World → Prop} {i : Nat} {o : Oper} {a : Act} {w : World} {KQ : Value → World → Prop} {B : Nat} {S0 Z : Nat → Prop} {t : List Value} {l : List QPred}
theorem ql.rd {bs : List Int} {v : Value} (hb : Bytes bs) (h : ql B 5 (bs.map bv).toArray Z t v w) (hl : bs.length ≤ 1000000) : ∃ R : Nat → Prop, (∀ j, R j → B ≤ j ∧ ¬ Z j ∧ j < w.heap.size) ∧ RdR R bs.length w v bs := by
  obtain ⟨g, rfl, hB, hZ, m, h4⟩ := h
  have e : (bs.map bv).toArray.size = bs.length := by simp
  refine ⟨fun k => k = g, fun j hj => by subst hj; exact ⟨hB, hZ, (Array.getElem?_eq_some_iff.1 h4).1⟩, ⟨hb, ?_⟩, fun _ k hk => by cases hk; rfl, Nat.le_refl _⟩
  rw [e]
  refine Rd.mk (Nat.le_refl _) (by rw [maxLen_val]; omega) (by simp) fun j y hy => ?_
  rw [Nat.zero_add]
  simp only [World.cell?, h4]
  simpa using hy
/-- a string's bytes -/
def bytesOf (s : ByteArray) : List Int := s.data.toList.map fun b => (b.toNat : Int)
theorem bytesOf_len (s : ByteArray) : (bytesOf s).length = s.size := by unfold bytesOf; rw [List.length_map]; rfl
theorem bytesOf_ok (s : ByteArray) : Bytes (bytesOf s) := by
  intro x hx
  obtain ⟨b, -, rfl⟩ := List.mem_map.1 hx
  have := b.toNat_lt
  omega
theorem str_bytes (w : World) (s : ByteArray) (hs : s.size ≤ 1000000) : ∃ cap w', (convert 9 38 (.string s)).run Try.prog w = .ok (.slice (some ⟨w.heap.size, 0, none⟩) s.size cap) w' ∧ RdR (fun k => k = w.heap.size) 1000000 w' (.slice (some ⟨w.heap.size, 0, none⟩) s.size cap) (bytesOf s) ∧ Mod (fun _ => False) w w' ∧ w'.heap.size = w.heap.size + 1 := by
  refine ⟨_, _, Lib.run_convert_string_bytes (P := Try.prog) w _ _ 5 s Try.underlying9 Try.underlying38 Try.underlying5, ⟨⟨bytesOf_ok s, ?_⟩, (fun _ g hg => by cases hg; rfl), by rw [bytesOf_len]; exact hs⟩, ⟨rfl, rfl, rfl, by rw [Lib.bytesWorld_size]; omega, fun k hk _ => Lib.bytesWorld_at_old w _ s k hk⟩, Lib.bytesWorld_size w _ s⟩
  rw [bytesOf_len]
  refine Rd.mk (grownCap_ge w s.size 0 _) (grownCap_le_maxLen w s.size 0 _ (by rw [maxLen_val]; omega)) (by rw [List.length_map, bytesOf_len, Nat.mul_one]) fun j u hu => ?_
  rw [Nat.zero_add]
  have hj : j < s.size := by have := (List.getElem?_eq_some_iff.1 hu).1; rwa [List.length_map, bytesOf_len] at this
  rw [Lib.bytesWorld_cell w _ s j hj, ← hu]
  simp only [bytesOf, List.map_map, List.getElem?_map]
  have hj2 : j < s.data.toList.length := by rw [Array.length_toList]; exact hj
  rw [List.getElem?_eq_getElem hj2]
  simp only [Option.map_some, Function.comp, List.getD, List.getElem?_eq_getElem hj2, Option.getD_some]
theorem ex_convW {P : Program} {o : Oper} {a : Act} {w w' : World} {src dst : TypeId} {x : Operand} {u v : Value} (ho : o.op = .convert src dst x) (hx : a.eval x = u) (hr : (convert src dst u).run P w = .ok v w') : (execOp a.eval o).run P w = .ok (.value v) w' := by
  unfold execOp; simp [ho, hx, hr]
/-- beside the chain a string is made bytes -/
theorem qe_strB {x : Operand} {s : ByteArray} (ho : ops[i]? = some o) (hw : Region.wanted o (yielded ops a.tmps) = true) (hop : o.op = .convert 9 38 x) (hx : a.eval x = .string s) (hs : s.size ≤ 1000000) (hB : B ≤ w.heap.size) (hZ : ∀ j, Z j → j < w.heap.size)
    (hv : ∀ v w', qr B S0 (fun R w v => RdR R 1000000 w v (bytesOf s)) Z t v w' → (l.getD i qa) Z t v w') : wpOp Try.prog ops Q i (QJ B l Z i o t a w) a w := by
  obtain ⟨cap, w', hr, h1, h2, h3⟩ := str_bytes w s hs
  refine qe_run ho hw (ex_convW hop hx hr) (QE.still h2) (hv _ _ ⟨fun k => k = w.heap.size, fun j hj => ?_, h1⟩)
  subst hj
  exact ⟨by omega, fun h => by omega, fun h => by have := hZ _ h.2; omega⟩
theorem rdR_cells {bs : List Int} {N : Nat} : ∀ R w w' v, RdR R N w v bs → (∀ p u, R p.block → w.cell? p = some u → w'.cell? p = some u) → RdR R N w' v bs :=
  fun R w w' v h hk => ⟨⟨h.1.1, h.1.2.keepc fun h0 g hg p u hp hc => hk p u (hp ▸ h.2.1 h0 g hg) hc⟩, h.2⟩
theorem NewWriter_Q (w : World) : Calls Try.prog 51 #[] w fun e w' => ∃ b, e = .returned (.pointer (some ⟨b, 0, none⟩)) ∧ WrR (New w w') 900000 w' b [] ∧ Mod (fun _ => False) w w' :=
  (NewWriter_R w).mono fun e w' ⟨b, he, h, hm⟩ => ⟨b, he, h.widen (fun _ h => h) (by omega), hm⟩
theorem WBytes_Q {R : Nat → Prop} {b : Nat} {bs : List Int} {w : World} (hW : WrR R 900000 w b bs) :
    Calls Try.prog 54 #[.pointer (some ⟨b, 0, none⟩)] w fun e w' => ∃ v', e = .returned v' ∧ OwR (New w w') 900000 w' v' bs ∧ Mod (fun _ => False) w w' := WBytes_R hW (by omega)
end
end Go.Proofs.Ytpnikilkcifncaa

/- Copies and cuts of lists of things. -/
namespace Go.Proofs.Ytpnikilkcifncaa
open Go Go.RowKit Go.Gv

theorem info_St : (Try.prog.info? 47).map (fun i => (i.zero, i.size, i.bytes)) = some (some (.agg #[.int .i64 0, .int .i64 0, .int .i64 0, .int .u8 0, .int .u8 0, .int .u8 0, .int .u8 0, .int .u8 0, .int .u8 0, .int .u8 0, .int .u8 0, .int .u8 0, .int .u8 0, .int .u8 0, .int .u8 0, .int .u8 0, .int .u8 0, .int .u8 0, .int .u8 0, .int .u8 0, .int .u8 0, .int .u8 0, .int .u8 0, .int .u8 0, .int .u8 0, .int .u8 0, .int .u8 0, .int .u8 0, .int .u8 0, .int .u8 0, .int .u8 0, .int .u8 0, .int .u8 0, .int .u8 0, .int .u8 0, .int .u64 0, .int .i64 0, .int .i64 0]), 38, 80) := by kernel_rfl
theorem info_Dn : (Try.prog.info? 104).map (fun i => (i.zero, i.size, i.bytes)) = some (some (.agg #[.int .i64 0, .int .i64 0, .int .i64 0, .int .i64 0]), 4, 32) := by kernel_rfl
theorem info_Ce : (Try.prog.info? 84).map (fun i => (i.zero, i.size, i.bytes)) = some (some (.agg #[.int .i64 0, .int .i64 0, .int .u8 0, .int .u8 0, .int .u8 0, .int .u8 0, .int .u8 0, .int .u8 0, .int .u8 0, .int .u8 0, .int .u8 0, .int .u8 0, .int .u8 0, .int .u8 0, .int .u8 0, .int .u8 0, .int .u8 0, .int .u8 0, .int .u8 0, .int .u8 0, .int .u8 0, .int .u8 0, .int .u8 0, .int .u8 0, .int .u8 0, .int .u8 0, .int .u8 0, .int .u8 0, .int .u8 0, .int .u8 0, .int .u8 0, .int .u8 0, .int .u8 0, .int .u8 0, .int .i64 0, .int .i64 0, .int .i64 0, .slice none 0 0]), 38, 96) := by kernel_rfl
theorem info_Pm : (Try.prog.info? 89).map (fun i => (i.zero, i.size, i.bytes)) = some (some (.agg #[.int .i64 0, .int .i64 0, .int .u64 0, .slice none 0 0, .int .i64 0, .int .i64 0]), 6, 64) := by kernel_rfl
theorem info_Op : (Try.prog.info? 102).map (fun i => (i.zero, i.size, i.bytes)) = some (some (.agg #[.int .i64 0, .slice none 0 0, .int .u8 0, .int .u8 0, .int .u8 0, .int .u8 0, .int .u8 0, .int .u8 0, .int .u8 0, .int .u8 0, .int .u8 0, .int .u8 0, .int .u8 0, .int .u8 0, .int .u8 0, .int .u8 0, .int .u8 0, .int .u8 0, .int .u8 0, .int .u8 0, .int .u8 0, .int .u8 0, .int .u8 0, .int .u8 0, .int .u8 0, .int .u8 0, .int .u8 0, .int .u8 0, .int .u8 0, .int .u8 0, .int .u8 0, .int .u8 0, .int .u8 0, .int .u8 0]), 34, 64) := by kernel_rfl
theorem info_Tb : (Try.prog.info? 214).map (fun i => (i.zero, i.size, i.bytes)) = some (some (.agg #[.int .i64 0, .slice none 0 0]), 2, 32) := by kernel_rfl

end Go.Proofs.Ytpnikilkcifncaa

/- Small parts of messages, read. -/
namespace Go.Proofs.Ytpnikilkcifncaa
open Go Go.RowKit Go.Gv

set_option maxHeartbeats 2000000 in
theorem cSig_Q : GetsF 183 132 (fun x : Int × Int => [.int .i64 x.1, .int .i64 x.2]) gSig := by
  intro R r s w hR hB
  have HRD := Lib.hid hR
  have HBR := Lib.hid hB
  have HBY := hid hR.bytes
  clear hR hB
  go_enter Try.func132, Try.ntmps132
  go_upto_region 1 with (fail)
  obtain ⟨w1, hw1⟩ : ∃ zz, zz = (w.alloc (.cells #[.int .i64 0, .int .i64 0] 34)) := ⟨_, rfl⟩
  change Code.wp _ _ _ _ (w.alloc (.cells #[.int .i64 0, .int .i64 0] 34))
  rw [← hw1]
  have HB2 := hid (show Cs w1 (w.heap.size) #[.int .i64 0, .int .i64 0] 34 by rw [hw1]; exact Cs.new _ _ _)
  have hm : Mod (fun _ => False) w w1 := by rw [hw1]; exact (Mod.refl _ _).alloc _
  have HM0 := hid (show Mod (fun k => (R k)) w w1 from hm.mono (fun _ _ h => h.elim))
  have hs1 : w1.heap.size = w.heap.size + 1 := by rw [hw1]; simp
  have Hx1 := hid (HRD.out.mod hm (fun _ _ h => h))
  clear HRD
  clear hw1 hm
  go_upto_region 1 with (fail)
  refine wp_region_U 8 [3, 4, 5, 6, 7, 13] [0, 1, 2, 3, 4, 5] (fun a0 HA0 => ?_)
  have oe0 := ev HA0 0 rfl
  have oe2 := ev HA0 2 rfl
  refine QSeq.pure rfl _ (fun E => ex_move rfl (E.v oe0)) ?_
  refine QSeq.call rfl rfl Try.func63 (cI_Q Hx1.out) (fun E => args2 (E.d 0 0) rfl) ?_
  rintro e u1_1 ⟨rfl, qrd, hm⟩
  refine ⟨_, rfl, ?_⟩
  have Hx2 := hid qrd
  have zu1_1 := hm.size
  have Cx3 := hid (show Mod (fun k => (R k)) w1 u1_1 from hm)
  clear hm
  clear qrd Hx1
  refine QSeq.pure rfl _ (fun E => ex_move rfl (E.v oe0)) ?_
  refine QSeq.call rfl rfl Try.func63 (cI_Q Hx2.out) (fun E => args2 (E.d 2 0) rfl) ?_
  rintro e u1_3 ⟨rfl, qrd, hm⟩
  refine ⟨_, rfl, ?_⟩
  have Hx4 := hid qrd
  have zu1_3 := hm.size
  have HMu1_3 := hid hm
  have Cx5 := hid (Mod.goS (S' := (fun k => (R k))) Cx3.out hm (fun _ h => h) (by intro k h0 h2; exact h2))
  clear hm Cx3
  clear qrd Hx2
  refine QSeq.go fun act E => ?_
  refine qc_run rfl (wanted_none rfl) (v := .agg #[.int .i64 (gSig s).1.1, .int .i64 (gSig s).1.2]) (ex_build rfl (z := [.int .i64 0, .int .i64 0]) (places := [(0, 1), (1, 1)]) (by kernel_rfl) (parts := [(0, .int .i64 (gI s).1), (1, .int .i64 (gI (gI s).2).1)]) (by simp only [List.map_toArray, List.map_cons, List.map_nil, show act.eval (.tmp 4) = .int .i64 (gI s).1 from (E.d 1 2), show act.eval (.tmp 6) = .int .i64 (gI (gI s).2).1 from (E.d 3 0)]; try rfl) (r := [.int .i64 (gSig s).1.1, .int .i64 (gSig s).1.2]) (by exact laid_segs (ns := [1, 1]) rfl [(0, .int .i64 (gI s).1), (1, .int .i64 (gI (gI s).2).1)] [[.int .i64 0], [.int .i64 0]] rfl ⟨rfl, rfl, trivial⟩)) ?_
  clear act E
  refine QSeq.go fun act E => ?_
  refine qc_store rfl (wanted_none rfl) rfl (HB2.out.mod Cx5.out (by intro h2; first | omega | (have hb := HBR.out _ h2; omega))) (off := 0) (vs := ([.int .i64 (gSig s).1.1, .int .i64 (gSig s).1.2])) (by kernel_rfl) (by intro u hu; simp at hu; rcases hu with rfl | rfl <;> rfl) (by simp) (E.v oe2) (ec (E.d 4 0)) ?_
  intro u1_5 qc0 hm
  have qB2 := qc0.eqv (b := (([.int .i64 (gSig s).1.1, .int .i64 (gSig s).1.2]) : List Value).toArray) (lay_whole #[.int .i64 0, .int .i64 0] _ rfl)
  clear qc0
  have Hx6 := hid qB2
  have zu1_5 := hm.size
  have HMu1_5 := hid hm
  have Cx7 := hid (Mod.goS (S' := (fun k => (R k) ∨ (k = w.heap.size))) Cx5.out hm (fun _ h => Or.inl h) (by intro k h0 h2; exact Or.inr (h2)))
  clear hm Cx5
  clear act E qB2 HB2
  have Hx8 := hid (Hx4.out.mod HMu1_5.out (sB HBR))
  clear Hx4 HMu1_3 HMu1_5
  refine QSeq.nil (t' := [_, _, _, _, _, _]) rfl ?_
  obtain rfl := HA0.out
  clear HA0 oe0 oe2
  simp only [pz, Act.put, List.setIfInBounds_toArray, List.set_cons_zero, List.set_cons_succ, List.set_nil]
  go_wp2
  exact bodyPost_ret (results_cellA rfl _ _ w.heap.size ([.int .i64 (gSig s).1.1, .int .i64 (gSig s).1.2]) rfl (fun k u hu => by rw [Hx6.out.cell]; simpa using hu) Try.underlying34 rfl (by kernel_rfl)) rfl ⟨rfl, Hx8.out, (HM0.out.trans Cx7.out (by intro k h1 h2; rcases h2 with h2 | h2 <;> first | exact h2 | omega | (have hb := HBR.out k h2; omega)))⟩
set_option maxHeartbeats 2000000 in
theorem cName_Q : GetsF 183 130 (fun x : Int × Int => [.int .i64 x.1, .int .i64 x.2]) gSig := by
  intro R r s w hR hB
  have HRD := Lib.hid hR
  have HBR := Lib.hid hB
  have HBY := hid hR.bytes
  clear hR hB
  go_enter Try.func130, Try.ntmps130
  go_upto_region 1 with (fail)
  obtain ⟨w1, hw1⟩ : ∃ zz, zz = (w.alloc (.cells #[.int .i64 0, .int .i64 0] 30)) := ⟨_, rfl⟩
  change Code.wp _ _ _ _ (w.alloc (.cells #[.int .i64 0, .int .i64 0] 30))
  rw [← hw1]
  have HB2 := hid (show Cs w1 (w.heap.size) #[.int .i64 0, .int .i64 0] 30 by rw [hw1]; exact Cs.new _ _ _)
  have hm : Mod (fun _ => False) w w1 := by rw [hw1]; exact (Mod.refl _ _).alloc _
  have HM0 := hid (show Mod (fun k => (R k)) w w1 from hm.mono (fun _ _ h => h.elim))
  have hs1 : w1.heap.size = w.heap.size + 1 := by rw [hw1]; simp
  have Hx1 := hid (HRD.out.mod hm (fun _ _ h => h))
  clear HRD
  clear hw1 hm
  go_upto_region 1 with (fail)
  refine wp_region_U 8 [3, 4, 5, 6, 7, 13] [0, 1, 2, 3, 4, 5] (fun a0 HA0 => ?_)
  have oe0 := ev HA0 0 rfl
  have oe2 := ev HA0 2 rfl
  refine QSeq.pure rfl _ (fun E => ex_move rfl (E.v oe0)) ?_
  refine QSeq.call rfl rfl Try.func63 (cI_Q Hx1.out) (fun E => args2 (E.d 0 0) rfl) ?_
  rintro e u1_1 ⟨rfl, qrd, hm⟩
  refine ⟨_, rfl, ?_⟩
  have Hx2 := hid qrd
  have zu1_1 := hm.size
  have Cx3 := hid (show Mod (fun k => (R k)) w1 u1_1 from hm)
  clear hm
  clear qrd Hx1
  refine QSeq.pure rfl _ (fun E => ex_move rfl (E.v oe0)) ?_
  refine QSeq.call rfl rfl Try.func63 (cI_Q Hx2.out) (fun E => args2 (E.d 2 0) rfl) ?_
  rintro e u1_3 ⟨rfl, qrd, hm⟩
  refine ⟨_, rfl, ?_⟩
  have Hx4 := hid qrd
  have zu1_3 := hm.size
  have HMu1_3 := hid hm
  have Cx5 := hid (Mod.goS (S' := (fun k => (R k))) Cx3.out hm (fun _ h => h) (by intro k h0 h2; exact h2))
  clear hm Cx3
  clear qrd Hx2
  refine QSeq.go fun act E => ?_
  refine qc_run rfl (wanted_none rfl) (v := .agg #[.int .i64 (gSig s).1.1, .int .i64 (gSig s).1.2]) (ex_build rfl (z := [.int .i64 0, .int .i64 0]) (places := [(0, 1), (1, 1)]) (by kernel_rfl) (parts := [(0, .int .i64 (gI s).1), (1, .int .i64 (gI (gI s).2).1)]) (by simp only [List.map_toArray, List.map_cons, List.map_nil, show act.eval (.tmp 4) = .int .i64 (gI s).1 from (E.d 1 2), show act.eval (.tmp 6) = .int .i64 (gI (gI s).2).1 from (E.d 3 0)]; try rfl) (r := [.int .i64 (gSig s).1.1, .int .i64 (gSig s).1.2]) (by exact laid_segs (ns := [1, 1]) rfl [(0, .int .i64 (gI s).1), (1, .int .i64 (gI (gI s).2).1)] [[.int .i64 0], [.int .i64 0]] rfl ⟨rfl, rfl, trivial⟩)) ?_
  clear act E
  refine QSeq.go fun act E => ?_
  refine qc_store rfl (wanted_none rfl) rfl (HB2.out.mod Cx5.out (by intro h2; first | omega | (have hb := HBR.out _ h2; omega))) (off := 0) (vs := ([.int .i64 (gSig s).1.1, .int .i64 (gSig s).1.2])) (by kernel_rfl) (by intro u hu; simp at hu; rcases hu with rfl | rfl <;> rfl) (by simp) (E.v oe2) (ec (E.d 4 0)) ?_
  intro u1_5 qc0 hm
  have qB2 := qc0.eqv (b := (([.int .i64 (gSig s).1.1, .int .i64 (gSig s).1.2]) : List Value).toArray) (lay_whole #[.int .i64 0, .int .i64 0] _ rfl)
  clear qc0
  have Hx6 := hid qB2
  have zu1_5 := hm.size
  have HMu1_5 := hid hm
  have Cx7 := hid (Mod.goS (S' := (fun k => (R k) ∨ (k = w.heap.size))) Cx5.out hm (fun _ h => Or.inl h) (by intro k h0 h2; exact Or.inr (h2)))
  clear hm Cx5
  clear act E qB2 HB2
  have Hx8 := hid (Hx4.out.mod HMu1_5.out (sB HBR))
  clear Hx4 HMu1_3 HMu1_5
  refine QSeq.nil (t' := [_, _, _, _, _, _]) rfl ?_
  obtain rfl := HA0.out
  clear HA0 oe0 oe2
  simp only [pz, Act.put, List.setIfInBounds_toArray, List.set_cons_zero, List.set_cons_succ, List.set_nil]
  go_wp2
  exact bodyPost_ret (results_cellA rfl _ _ w.heap.size ([.int .i64 (gSig s).1.1, .int .i64 (gSig s).1.2]) rfl (fun k u hu => by rw [Hx6.out.cell]; simpa using hu) Try.underlying30 rfl (by kernel_rfl)) rfl ⟨rfl, Hx8.out, (HM0.out.trans Cx7.out (by intro k h1 h2; rcases h2 with h2 | h2 <;> first | exact h2 | omega | (have hb := HBR.out k h2; omega)))⟩
set_option maxHeartbeats 4000000 in
theorem cCm_Q : GetsF 183 98 Cm.cells gCm := by
  intro R r s w hR hB
  have HRD := Lib.hid hR
  have HBR := Lib.hid hB
  have HBY := hid hR.bytes
  clear hR hB
  go_enter Try.func98, Try.ntmps98
  go_upto_region 1 with (fail)
  obtain ⟨w1, hw1⟩ : ∃ zz, zz = (w.alloc (.cells #[.int .i64 0, .int .i64 0, .int .u8 0, .int .u8 0, .int .u8 0, .int .u8 0, .int .u8 0, .int .u8 0, .int .u8 0, .int .u8 0, .int .u8 0, .int .u8 0, .int .u8 0, .int .u8 0, .int .u8 0, .int .u8 0, .int .u8 0, .int .u8 0, .int .u8 0, .int .u8 0, .int .u8 0, .int .u8 0, .int .u8 0, .int .u8 0, .int .u8 0, .int .u8 0, .int .u8 0, .int .u8 0, .int .u8 0, .int .u8 0, .int .u8 0, .int .u8 0, .int .u8 0, .int .u8 0, .int .i64 0, .int .i64 0, .int .i64 0] 36)) := ⟨_, rfl⟩
  change Code.wp _ _ _ _ (w.alloc (.cells #[.int .i64 0, .int .i64 0, .int .u8 0, .int .u8 0, .int .u8 0, .int .u8 0, .int .u8 0, .int .u8 0, .int .u8 0, .int .u8 0, .int .u8 0, .int .u8 0, .int .u8 0, .int .u8 0, .int .u8 0, .int .u8 0, .int .u8 0, .int .u8 0, .int .u8 0, .int .u8 0, .int .u8 0, .int .u8 0, .int .u8 0, .int .u8 0, .int .u8 0, .int .u8 0, .int .u8 0, .int .u8 0, .int .u8 0, .int .u8 0, .int .u8 0, .int .u8 0, .int .u8 0, .int .u8 0, .int .i64 0, .int .i64 0, .int .i64 0] 36))
  rw [← hw1]
  have HB2 := hid (show Cs w1 (w.heap.size) #[.int .i64 0, .int .i64 0, .int .u8 0, .int .u8 0, .int .u8 0, .int .u8 0, .int .u8 0, .int .u8 0, .int .u8 0, .int .u8 0, .int .u8 0, .int .u8 0, .int .u8 0, .int .u8 0, .int .u8 0, .int .u8 0, .int .u8 0, .int .u8 0, .int .u8 0, .int .u8 0, .int .u8 0, .int .u8 0, .int .u8 0, .int .u8 0, .int .u8 0, .int .u8 0, .int .u8 0, .int .u8 0, .int .u8 0, .int .u8 0, .int .u8 0, .int .u8 0, .int .u8 0, .int .u8 0, .int .i64 0, .int .i64 0, .int .i64 0] 36 by rw [hw1]; exact Cs.new _ _ _)
  have hm : Mod (fun _ => False) w w1 := by rw [hw1]; exact (Mod.refl _ _).alloc _
  have HM0 := hid (show Mod (fun k => (R k)) w w1 from hm.mono (fun _ _ h => h.elim))
  have hs1 : w1.heap.size = w.heap.size + 1 := by rw [hw1]; simp
  have Hx1 := hid (HRD.out.mod hm (fun _ _ h => h))
  clear HRD
  clear hw1 hm
  go_upto_region 1 with (fail)
  refine wp_region_U 12 [3, 4, 5, 6, 7, 8, 9, 10, 11, 21] [0, 1, 2, 3, 4, 5, 6, 7, 8, 9] (fun a0 HA0 => ?_)
  have oe0 := ev HA0 0 rfl
  have oe2 := ev HA0 2 rfl
  refine QSeq.pure rfl _ (fun E => ex_move rfl (E.v oe0)) ?_
  refine QSeq.call rfl rfl Try.func130 (cName_Q _ _ _ _ Hx1.out (by intro k h1; have hb := HBR.out k h1; omega)) (fun E => args1 (E.d 0 0)) ?_
  rintro e u1_1 ⟨rfl, qrd, hm⟩
  refine ⟨_, rfl, ?_⟩
  have Hx2 := hid qrd
  have zu1_1 := hm.size
  have Cx3 := hid (show Mod (fun k => (R k)) w1 u1_1 from hm)
  clear hm
  clear qrd Hx1
  refine QSeq.pure rfl _ (fun E => ex_move rfl (E.v oe0)) ?_
  refine QSeq.call rfl rfl Try.func131 (RHash_R Hx2.out) (fun E => args1 (E.d 2 0)) ?_
  rintro e u1_3 ⟨rfl, qrd, hm⟩
  refine ⟨_, rfl, ?_⟩
  have Hx4 := hid qrd
  have zu1_3 := hm.size
  have HMu1_3 := hid hm
  have Cx5 := hid (Mod.goS (S' := (fun k => (R k))) Cx3.out hm (fun _ h => h) (by intro k h0 h2; exact h2))
  clear hm Cx3
  clear qrd Hx2
  refine QSeq.pure rfl _ (fun E => ex_move rfl (E.v oe0)) ?_
  refine QSeq.call rfl rfl Try.func63 (cI_Q Hx4.out) (fun E => args2 (E.d 4 0) rfl) ?_
  rintro e u1_5 ⟨rfl, qrd, hm⟩
  refine ⟨_, rfl, ?_⟩
  have Hx6 := hid qrd
  have zu1_5 := hm.size
  have HMu1_5 := hid hm
  have Cx7 := hid (Mod.goS (S' := (fun k => (R k))) Cx5.out hm (fun _ h => h) (by intro k h0 h2; exact h2))
  clear hm Cx5
  clear qrd Hx4
  refine QSeq.pure rfl _ (fun E => ex_move rfl (E.v oe0)) ?_
  refine QSeq.call rfl rfl Try.func132 (cSig_Q _ _ _ _ Hx6.out (by intro k h1; have hb := HBR.out k h1; omega)) (fun E => args1 (E.d 6 0)) ?_
  rintro e u1_7 ⟨rfl, qrd, hm⟩
  refine ⟨_, rfl, ?_⟩
  have Hx8 := hid qrd
  have zu1_7 := hm.size
  have HMu1_7 := hid hm
  have Cx9 := hid (Mod.goS (S' := (fun k => (R k))) Cx7.out hm (fun _ h => h) (by intro k h0 h2; exact h2))
  clear hm Cx7
  clear qrd Hx6
  refine QSeq.go fun act E => ?_
  refine qc_run rfl (wanted_none rfl) (v := .agg ((gCm s).1.cells : List Value).toArray) (ex_build rfl (z := [.int .i64 0, .int .i64 0, .int .u8 0, .int .u8 0, .int .u8 0, .int .u8 0, .int .u8 0, .int .u8 0, .int .u8 0, .int .u8 0, .int .u8 0, .int .u8 0, .int .u8 0, .int .u8 0, .int .u8 0, .int .u8 0, .int .u8 0, .int .u8 0, .int .u8 0, .int .u8 0, .int .u8 0, .int .u8 0, .int .u8 0, .int .u8 0, .int .u8 0, .int .u8 0, .int .u8 0, .int .u8 0, .int .u8 0, .int .u8 0, .int .u8 0, .int .u8 0, .int .u8 0, .int .u8 0, .int .i64 0, .int .i64 0, .int .i64 0]) (places := [(0, 2), (2, 32), (34, 1), (35, 2)]) (by kernel_rfl) (parts := [(0, .agg #[.int .i64 (gSig s).1.1, .int .i64 (gSig s).1.2]), (1, hv (rHash (gSig s).2).1), (2, .int .i64 (gI (rHash (gSig s).2).2).1), (3, .agg #[.int .i64 (gSig (gI (rHash (gSig s).2).2).2).1.1, .int .i64 (gSig (gI (rHash (gSig s).2).2).2).1.2])]) (by simp only [List.map_toArray, List.map_cons, List.map_nil, show act.eval (.tmp 4) = .agg #[.int .i64 (gSig s).1.1, .int .i64 (gSig s).1.2] from (E.d 1 6), show act.eval (.tmp 6) = hv (rHash (gSig s).2).1 from (E.d 3 4), show act.eval (.tmp 8) = .int .i64 (gI (rHash (gSig s).2).2).1 from (E.d 5 2), show act.eval (.tmp 10) = .agg #[.int .i64 (gSig (gI (rHash (gSig s).2).2).2).1.1, .int .i64 (gSig (gI (rHash (gSig s).2).2).2).1.2] from (E.d 7 0)]; try rfl) (r := (gCm s).1.cells) (by exact laid_segs (ns := [2, 32, 1, 2]) rfl [(0, .agg #[.int .i64 (gSig s).1.1, .int .i64 (gSig s).1.2]), (1, hv (rHash (gSig s).2).1), (2, .int .i64 (gI (rHash (gSig s).2).2).1), (3, .agg #[.int .i64 (gSig (gI (rHash (gSig s).2).2).2).1.1, .int .i64 (gSig (gI (rHash (gSig s).2).2).2).1.2])] [[.int .i64 0, .int .i64 0], [.int .u8 0, .int .u8 0, .int .u8 0, .int .u8 0, .int .u8 0, .int .u8 0, .int .u8 0, .int .u8 0, .int .u8 0, .int .u8 0, .int .u8 0, .int .u8 0, .int .u8 0, .int .u8 0, .int .u8 0, .int .u8 0, .int .u8 0, .int .u8 0, .int .u8 0, .int .u8 0, .int .u8 0, .int .u8 0, .int .u8 0, .int .u8 0, .int .u8 0, .int .u8 0, .int .u8 0, .int .u8 0, .int .u8 0, .int .u8 0, .int .u8 0, .int .u8 0], [.int .i64 0], [.int .i64 0, .int .i64 0]] rfl ⟨rfl, (szv (by rw [List.length_map]; exact rHash_l _)), rfl, rfl, trivial⟩)) ?_
  clear act E
  refine QSeq.go fun act E => ?_
  refine qc_store rfl (wanted_none rfl) rfl (HB2.out.mod Cx9.out (by intro h2; first | omega | (have hb := HBR.out _ h2; omega))) (off := 0) (vs := ((gCm s).1.cells)) (by rw [show ((gCm s).1.cells).length = _ from (Cm.len (rHash_HK (gSig_suf.bytes HBY.out)).1)]; kernel_rfl) (Cm_one _) (by rw [show ((gCm s).1.cells).length = _ from (Cm.len (rHash_HK (gSig_suf.bytes HBY.out)).1)]; decide) (E.v oe2) (ec (E.d 8 0)) ?_
  intro u1_9 qc0 hm
  have qB2 := qc0.eqv (b := (((gCm s).1.cells) : List Value).toArray) (lay_whole _ _ (by rw [show ((gCm s).1.cells).length = _ from (Cm.len (rHash_HK (gSig_suf.bytes HBY.out)).1)]; rfl))
  clear qc0
  have Hx10 := hid qB2
  have zu1_9 := hm.size
  have HMu1_9 := hid hm
  have Cx11 := hid (Mod.goS (S' := (fun k => (R k) ∨ (k = w.heap.size))) Cx9.out hm (fun _ h => Or.inl h) (by intro k h0 h2; exact Or.inr (h2)))
  clear hm Cx9
  clear act E qB2 HB2
  have Hx12 := hid (Hx8.out.mod HMu1_9.out (sB HBR))
  clear Hx8 HMu1_3 HMu1_5 HMu1_7 HMu1_9
  refine QSeq.nil (t' := [_, _, _, _, _, _, _, _, _, _]) rfl ?_
  obtain rfl := HA0.out
  clear HA0 oe0 oe2
  simp only [pz, Act.put, List.setIfInBounds_toArray, List.set_cons_zero, List.set_cons_succ, List.set_nil]
  go_wp2
  exact bodyPost_ret (results_cellA rfl _ _ w.heap.size ((gCm s).1.cells) rfl (fun k u hu => by rw [Hx10.out.cell]; simpa using hu) Try.underlying36 rfl (by rw [show ((gCm s).1.cells).length = _ from (Cm.len (rHash_HK (gSig_suf.bytes HBY.out)).1)]; kernel_rfl)) rfl ⟨rfl, Hx12.out, (HM0.out.trans Cx11.out (by intro k h1 h2; rcases h2 with h2 | h2 <;> first | exact h2 | omega | (have hb := HBR.out k h2; omega)))⟩
set_option maxHeartbeats 4000000 in
theorem cSt_Q : GetsF 183 99 St.cells gSt := by
  intro R r s w hR hB
  have HRD := Lib.hid hR
  have HBR := Lib.hid hB
  have HBY := hid hR.bytes
  clear hR hB
  go_enter Try.func99, Try.ntmps99
  go_upto_region 1 with (fail)
  obtain ⟨w1, hw1⟩ : ∃ zz, zz = (w.alloc (.cells #[.int .i64 0, .int .i64 0, .int .i64 0, .int .u8 0, .int .u8 0, .int .u8 0, .int .u8 0, .int .u8 0, .int .u8 0, .int .u8 0, .int .u8 0, .int .u8 0, .int .u8 0, .int .u8 0, .int .u8 0, .int .u8 0, .int .u8 0, .int .u8 0, .int .u8 0, .int .u8 0, .int .u8 0, .int .u8 0, .int .u8 0, .int .u8 0, .int .u8 0, .int .u8 0, .int .u8 0, .int .u8 0, .int .u8 0, .int .u8 0, .int .u8 0, .int .u8 0, .int .u8 0, .int .u8 0, .int .u8 0, .int .u64 0, .int .i64 0, .int .i64 0] 47)) := ⟨_, rfl⟩
  change Code.wp _ _ _ _ (w.alloc (.cells #[.int .i64 0, .int .i64 0, .int .i64 0, .int .u8 0, .int .u8 0, .int .u8 0, .int .u8 0, .int .u8 0, .int .u8 0, .int .u8 0, .int .u8 0, .int .u8 0, .int .u8 0, .int .u8 0, .int .u8 0, .int .u8 0, .int .u8 0, .int .u8 0, .int .u8 0, .int .u8 0, .int .u8 0, .int .u8 0, .int .u8 0, .int .u8 0, .int .u8 0, .int .u8 0, .int .u8 0, .int .u8 0, .int .u8 0, .int .u8 0, .int .u8 0, .int .u8 0, .int .u8 0, .int .u8 0, .int .u8 0, .int .u64 0, .int .i64 0, .int .i64 0] 47))
  rw [← hw1]
  have HB2 := hid (show Cs w1 (w.heap.size) #[.int .i64 0, .int .i64 0, .int .i64 0, .int .u8 0, .int .u8 0, .int .u8 0, .int .u8 0, .int .u8 0, .int .u8 0, .int .u8 0, .int .u8 0, .int .u8 0, .int .u8 0, .int .u8 0, .int .u8 0, .int .u8 0, .int .u8 0, .int .u8 0, .int .u8 0, .int .u8 0, .int .u8 0, .int .u8 0, .int .u8 0, .int .u8 0, .int .u8 0, .int .u8 0, .int .u8 0, .int .u8 0, .int .u8 0, .int .u8 0, .int .u8 0, .int .u8 0, .int .u8 0, .int .u8 0, .int .u8 0, .int .u64 0, .int .i64 0, .int .i64 0] 47 by rw [hw1]; exact Cs.new _ _ _)
  have hm : Mod (fun _ => False) w w1 := by rw [hw1]; exact (Mod.refl _ _).alloc _
  have HM0 := hid (show Mod (fun k => (R k)) w w1 from hm.mono (fun _ _ h => h.elim))
  have hs1 : w1.heap.size = w.heap.size + 1 := by rw [hw1]; simp
  have Hx1 := hid (HRD.out.mod hm (fun _ _ h => h))
  clear HRD
  clear hw1 hm
  go_upto_region 1 with (fail)
  refine wp_region_U 14 [3, 4, 5, 6, 7, 8, 9, 10, 11, 12, 13, 25] [0, 1, 2, 3, 4, 5, 6, 7, 8, 9, 10, 11] (fun a0 HA0 => ?_)
  have oe0 := ev HA0 0 rfl
  have oe2 := ev HA0 2 rfl
  refine QSeq.pure rfl _ (fun E => ex_move rfl (E.v oe0)) ?_
  refine QSeq.call rfl rfl Try.func63 (cI_Q Hx1.out) (fun E => args2 (E.d 0 0) rfl) ?_
  rintro e u1_1 ⟨rfl, qrd, hm⟩
  refine ⟨_, rfl, ?_⟩
  have Hx2 := hid qrd
  have zu1_1 := hm.size
  have Cx3 := hid (show Mod (fun k => (R k)) w1 u1_1 from hm)
  clear hm
  clear qrd Hx1
  refine QSeq.pure rfl _ (fun E => ex_move rfl (E.v oe0)) ?_
  refine QSeq.call rfl rfl Try.func130 (cName_Q _ _ _ _ Hx2.out (by intro k h1; have hb := HBR.out k h1; omega)) (fun E => args1 (E.d 2 0)) ?_
  rintro e u1_3 ⟨rfl, qrd, hm⟩
  refine ⟨_, rfl, ?_⟩
  have Hx4 := hid qrd
  have zu1_3 := hm.size
  have HMu1_3 := hid hm
  have Cx5 := hid (Mod.goS (S' := (fun k => (R k))) Cx3.out hm (fun _ h => h) (by intro k h0 h2; exact h2))
  clear hm Cx3
  clear qrd Hx2
  refine QSeq.pure rfl _ (fun E => ex_move rfl (E.v oe0)) ?_
  refine QSeq.call rfl rfl Try.func131 (RHash_R Hx4.out) (fun E => args1 (E.d 4 0)) ?_
  rintro e u1_5 ⟨rfl, qrd, hm⟩
  refine ⟨_, rfl, ?_⟩
  have Hx6 := hid qrd
  have zu1_5 := hm.size
  have HMu1_5 := hid hm
  have Cx7 := hid (Mod.goS (S' := (fun k => (R k))) Cx5.out hm (fun _ h => h) (by intro k h0 h2; exact h2))
  clear hm Cx5
  clear qrd Hx4
  refine QSeq.pure rfl _ (fun E => ex_move rfl (E.v oe0)) ?_
  refine QSeq.call rfl rfl Try.func102 (RNum_R Hx6.out) (fun E => args1 (E.d 6 0)) ?_
  rintro e u1_7 ⟨rfl, qrd, hm⟩
  refine ⟨_, rfl, ?_⟩
  have Hx8 := hid qrd
  have zu1_7 := hm.size
  have HMu1_7 := hid hm
  have Cx9 := hid (Mod.goS (S' := (fun k => (R k))) Cx7.out hm (fun _ h => h) (by intro k h0 h2; exact h2))
  clear hm Cx7
  clear qrd Hx6
  refine QSeq.pure rfl _ (fun E => ex_move rfl (E.v oe0)) ?_
  refine QSeq.call rfl rfl Try.func132 (cSig_Q _ _ _ _ Hx8.out (by intro k h1; have hb := HBR.out k h1; omega)) (fun E => args1 (E.d 8 0)) ?_
  rintro e u1_9 ⟨rfl, qrd, hm⟩
  refine ⟨_, rfl, ?_⟩
  have Hx10 := hid qrd
  have zu1_9 := hm.size
  have HMu1_9 := hid hm
  have Cx11 := hid (Mod.goS (S' := (fun k => (R k))) Cx9.out hm (fun _ h => h) (by intro k h0 h2; exact h2))
  clear hm Cx9
  clear qrd Hx8
  refine QSeq.go fun act E => ?_
  refine qc_run rfl (wanted_none rfl) (v := .agg ((gSt s).1.cells : List Value).toArray) (ex_build rfl (z := [.int .i64 0, .int .i64 0, .int .i64 0, .int .u8 0, .int .u8 0, .int .u8 0, .int .u8 0, .int .u8 0, .int .u8 0, .int .u8 0, .int .u8 0, .int .u8 0, .int .u8 0, .int .u8 0, .int .u8 0, .int .u8 0, .int .u8 0, .int .u8 0, .int .u8 0, .int .u8 0, .int .u8 0, .int .u8 0, .int .u8 0, .int .u8 0, .int .u8 0, .int .u8 0, .int .u8 0, .int .u8 0, .int .u8 0, .int .u8 0, .int .u8 0, .int .u8 0, .int .u8 0, .int .u8 0, .int .u8 0, .int .u64 0, .int .i64 0, .int .i64 0]) (places := [(0, 1), (1, 2), (3, 32), (35, 1), (36, 2)]) (by kernel_rfl) (parts := [(0, .int .i64 (gI s).1), (1, .agg #[.int .i64 (gSig (gI s).2).1.1, .int .i64 (gSig (gI s).2).1.2]), (2, hv (rHash (gSig (gI s).2).2).1), (3, .int .u64 ((rNum (rHash (gSig (gI s).2).2).2).1 : Nat)), (4, .agg #[.int .i64 (gSig (rNum (rHash (gSig (gI s).2).2).2).2).1.1, .int .i64 (gSig (rNum (rHash (gSig (gI s).2).2).2).2).1.2])]) (by simp only [List.map_toArray, List.map_cons, List.map_nil, show act.eval (.tmp 4) = .int .i64 (gI s).1 from (E.d 1 8), show act.eval (.tmp 6) = .agg #[.int .i64 (gSig (gI s).2).1.1, .int .i64 (gSig (gI s).2).1.2] from (E.d 3 6), show act.eval (.tmp 8) = hv (rHash (gSig (gI s).2).2).1 from (E.d 5 4), show act.eval (.tmp 10) = .int .u64 ((rNum (rHash (gSig (gI s).2).2).2).1 : Nat) from (E.d 7 2), show act.eval (.tmp 12) = .agg #[.int .i64 (gSig (rNum (rHash (gSig (gI s).2).2).2).2).1.1, .int .i64 (gSig (rNum (rHash (gSig (gI s).2).2).2).2).1.2] from (E.d 9 0)]; try rfl) (r := (gSt s).1.cells) (by exact laid_segs (ns := [1, 2, 32, 1, 2]) rfl [(0, .int .i64 (gI s).1), (1, .agg #[.int .i64 (gSig (gI s).2).1.1, .int .i64 (gSig (gI s).2).1.2]), (2, hv (rHash (gSig (gI s).2).2).1), (3, .int .u64 ((rNum (rHash (gSig (gI s).2).2).2).1 : Nat)), (4, .agg #[.int .i64 (gSig (rNum (rHash (gSig (gI s).2).2).2).2).1.1, .int .i64 (gSig (rNum (rHash (gSig (gI s).2).2).2).2).1.2])] [[.int .i64 0], [.int .i64 0, .int .i64 0], [.int .u8 0, .int .u8 0, .int .u8 0, .int .u8 0, .int .u8 0, .int .u8 0, .int .u8 0, .int .u8 0, .int .u8 0, .int .u8 0, .int .u8 0, .int .u8 0, .int .u8 0, .int .u8 0, .int .u8 0, .int .u8 0, .int .u8 0, .int .u8 0, .int .u8 0, .int .u8 0, .int .u8 0, .int .u8 0, .int .u8 0, .int .u8 0, .int .u8 0, .int .u8 0, .int .u8 0, .int .u8 0, .int .u8 0, .int .u8 0, .int .u8 0, .int .u8 0], [.int .u64 0], [.int .i64 0, .int .i64 0]] rfl ⟨rfl, rfl, (szv (by rw [List.length_map]; exact rHash_l _)), rfl, rfl, trivial⟩)) ?_
  clear act E
  refine QSeq.go fun act E => ?_
  refine qc_store rfl (wanted_none rfl) rfl (HB2.out.mod Cx11.out (by intro h2; first | omega | (have hb := HBR.out _ h2; omega))) (off := 0) (vs := ((gSt s).1.cells)) (by rw [show ((gSt s).1.cells).length = _ from (St.len (gSt_OK HBY.out))]; kernel_rfl) (St.one _) (by rw [show ((gSt s).1.cells).length = _ from (St.len (gSt_OK HBY.out))]; decide) (E.v oe2) (ec (E.d 10 0)) ?_
  intro u1_11 qc0 hm
  have qB2 := qc0.eqv (b := (((gSt s).1.cells) : List Value).toArray) (lay_whole _ _ (by rw [show ((gSt s).1.cells).length = _ from (St.len (gSt_OK HBY.out))]; rfl))
  clear qc0
  have Hx12 := hid qB2
  have zu1_11 := hm.size
  have HMu1_11 := hid hm
  have Cx13 := hid (Mod.goS (S' := (fun k => (R k) ∨ (k = w.heap.size))) Cx11.out hm (fun _ h => Or.inl h) (by intro k h0 h2; exact Or.inr (h2)))
  clear hm Cx11
  clear act E qB2 HB2
  have Hx14 := hid (Hx10.out.mod HMu1_11.out (sB HBR))
  clear Hx10 HMu1_3 HMu1_5 HMu1_7 HMu1_9 HMu1_11
  refine QSeq.nil (t' := [_, _, _, _, _, _, _, _, _, _, _, _]) rfl ?_
  obtain rfl := HA0.out
  clear HA0 oe0 oe2
  simp only [pz, Act.put, List.setIfInBounds_toArray, List.set_cons_zero, List.set_cons_succ, List.set_nil]
  go_wp2
  exact bodyPost_ret (results_cellA rfl _ _ w.heap.size ((gSt s).1.cells) rfl (fun k u hu => by rw [Hx12.out.cell]; simpa using hu) Try.underlying47 rfl (by rw [show ((gSt s).1.cells).length = _ from (St.len (gSt_OK HBY.out))]; kernel_rfl)) rfl ⟨rfl, Hx14.out, (HM0.out.trans Cx13.out (by intro k h1 h2; rcases h2 with h2 | h2 <;> first | exact h2 | omega | (have hb := HBR.out k h2; omega)))⟩
theorem cSt_G : Gets StR 183 99 gSt := GetsF.to (A := StR) cSt_Q fun _ _ _ hb => ⟨rfl, gSt_OK hb⟩
set_option maxHeartbeats 4000000 in
theorem cDn_Q : GetsF 183 108 Dn.cells gDn := by
  intro R r s w hR hB
  have HRD := Lib.hid hR
  have HBR := Lib.hid hB
  have HBY := hid hR.bytes
  clear hR hB
  go_enter Try.func108, Try.ntmps108
  go_upto_region 1 with (fail)
  obtain ⟨w1, hw1⟩ : ∃ zz, zz = (w.alloc (.cells #[.int .i64 0, .int .i64 0, .int .i64 0, .int .i64 0] 104)) := ⟨_, rfl⟩
  change Code.wp _ _ _ _ (w.alloc (.cells #[.int .i64 0, .int .i64 0, .int .i64 0, .int .i64 0] 104))
  rw [← hw1]
  have HB2 := hid (show Cs w1 (w.heap.size) #[.int .i64 0, .int .i64 0, .int .i64 0, .int .i64 0] 104 by rw [hw1]; exact Cs.new _ _ _)
  have hm : Mod (fun _ => False) w w1 := by rw [hw1]; exact (Mod.refl _ _).alloc _
  have HM0 := hid (show Mod (fun k => (R k)) w w1 from hm.mono (fun _ _ h => h.elim))
  have hs1 : w1.heap.size = w.heap.size + 1 := by rw [hw1]; simp
  have Hx1 := hid (HRD.out.mod hm (fun _ _ h => h))
  clear HRD
  clear hw1 hm
  go_upto_region 1 with (fail)
  refine wp_region_U 10 [3, 4, 5, 6, 7, 8, 9, 17] [0, 1, 2, 3, 4, 5, 6, 7] (fun a0 HA0 => ?_)
  have oe0 := ev HA0 0 rfl
  have oe2 := ev HA0 2 rfl
  refine QSeq.pure rfl _ (fun E => ex_move rfl (E.v oe0)) ?_
  refine QSeq.call rfl rfl Try.func63 (cI_Q Hx1.out) (fun E => args2 (E.d 0 0) rfl) ?_
  rintro e u1_1 ⟨rfl, qrd, hm⟩
  refine ⟨_, rfl, ?_⟩
  have Hx2 := hid qrd
  have zu1_1 := hm.size
  have Cx3 := hid (show Mod (fun k => (R k)) w1 u1_1 from hm)
  clear hm
  clear qrd Hx1
  refine QSeq.pure rfl _ (fun E => ex_move rfl (E.v oe0)) ?_
  refine QSeq.call rfl rfl Try.func63 (cI_Q Hx2.out) (fun E => args2 (E.d 2 0) rfl) ?_
  rintro e u1_3 ⟨rfl, qrd, hm⟩
  refine ⟨_, rfl, ?_⟩
  have Hx4 := hid qrd
  have zu1_3 := hm.size
  have HMu1_3 := hid hm
  have Cx5 := hid (Mod.goS (S' := (fun k => (R k))) Cx3.out hm (fun _ h => h) (by intro k h0 h2; exact h2))
  clear hm Cx3
  clear qrd Hx2
  refine QSeq.pure rfl _ (fun E => ex_move rfl (E.v oe0)) ?_
  refine QSeq.call rfl rfl Try.func132 (cSig_Q _ _ _ _ Hx4.out (by intro k h1; have hb := HBR.out k h1; omega)) (fun E => args1 (E.d 4 0)) ?_
  rintro e u1_5 ⟨rfl, qrd, hm⟩
  refine ⟨_, rfl, ?_⟩
  have Hx6 := hid qrd
  have zu1_5 := hm.size
  have HMu1_5 := hid hm
  have Cx7 := hid (Mod.goS (S' := (fun k => (R k))) Cx5.out hm (fun _ h => h) (by intro k h0 h2; exact h2))
  clear hm Cx5
  clear qrd Hx4
  refine QSeq.go fun act E => ?_
  refine qc_run rfl (wanted_none rfl) (v := .agg ((gDn s).1.cells : List Value).toArray) (ex_build rfl (z := [.int .i64 0, .int .i64 0, .int .i64 0, .int .i64 0]) (places := [(0, 1), (1, 1), (2, 2)]) (by kernel_rfl) (parts := [(0, .int .i64 (gI s).1), (1, .int .i64 (gI (gI s).2).1), (2, .agg #[.int .i64 (gSig (gI (gI s).2).2).1.1, .int .i64 (gSig (gI (gI s).2).2).1.2])]) (by simp only [List.map_toArray, List.map_cons, List.map_nil, show act.eval (.tmp 4) = .int .i64 (gI s).1 from (E.d 1 4), show act.eval (.tmp 6) = .int .i64 (gI (gI s).2).1 from (E.d 3 2), show act.eval (.tmp 8) = .agg #[.int .i64 (gSig (gI (gI s).2).2).1.1, .int .i64 (gSig (gI (gI s).2).2).1.2] from (E.d 5 0)]; try rfl) (r := (gDn s).1.cells) (by exact laid_segs (ns := [1, 1, 2]) rfl [(0, .int .i64 (gI s).1), (1, .int .i64 (gI (gI s).2).1), (2, .agg #[.int .i64 (gSig (gI (gI s).2).2).1.1, .int .i64 (gSig (gI (gI s).2).2).1.2])] [[.int .i64 0], [.int .i64 0], [.int .i64 0, .int .i64 0]] rfl ⟨rfl, rfl, rfl, trivial⟩)) ?_
  clear act E
  refine QSeq.go fun act E => ?_
  refine qc_store rfl (wanted_none rfl) rfl (HB2.out.mod Cx7.out (by intro h2; first | omega | (have hb := HBR.out _ h2; omega))) (off := 0) (vs := ((gDn s).1.cells)) (by rw [show ((gDn s).1.cells).length = _ from (Dn.len (gDn_OK HBY.out))]; kernel_rfl) (Dn.one _) (by rw [show ((gDn s).1.cells).length = _ from (Dn.len (gDn_OK HBY.out))]; decide) (E.v oe2) (ec (E.d 6 0)) ?_
  intro u1_7 qc0 hm
  have qB2 := qc0.eqv (b := (((gDn s).1.cells) : List Value).toArray) (lay_whole _ _ (by rw [show ((gDn s).1.cells).length = _ from (Dn.len (gDn_OK HBY.out))]; rfl))
  clear qc0
  have Hx8 := hid qB2
  have zu1_7 := hm.size
  have HMu1_7 := hid hm
  have Cx9 := hid (Mod.goS (S' := (fun k => (R k) ∨ (k = w.heap.size))) Cx7.out hm (fun _ h => Or.inl h) (by intro k h0 h2; exact Or.inr (h2)))
  clear hm Cx7
  clear act E qB2 HB2
  have Hx10 := hid (Hx6.out.mod HMu1_7.out (sB HBR))
  clear Hx6 HMu1_3 HMu1_5 HMu1_7
  refine QSeq.nil (t' := [_, _, _, _, _, _, _, _]) rfl ?_
  obtain rfl := HA0.out
  clear HA0 oe0 oe2
  simp only [pz, Act.put, List.setIfInBounds_toArray, List.set_cons_zero, List.set_cons_succ, List.set_nil]
  go_wp2
  exact bodyPost_ret (results_cellA rfl _ _ w.heap.size ((gDn s).1.cells) rfl (fun k u hu => by rw [Hx8.out.cell]; simpa using hu) Try.underlying104 rfl (by rw [show ((gDn s).1.cells).length = _ from (Dn.len (gDn_OK HBY.out))]; kernel_rfl)) rfl ⟨rfl, Hx10.out, (HM0.out.trans Cx9.out (by intro k h1 h2; rcases h2 with h2 | h2 <;> first | exact h2 | omega | (have hb := HBR.out k h2; omega)))⟩
theorem cDn_G : Gets DnR 183 108 gDn := GetsF.to (A := DnR) cDn_Q fun _ _ _ hb => ⟨rfl, gDn_OK hb⟩
set_option maxHeartbeats 4000000 in
theorem cList_St : GetsL StR 183 133 99 gSt := by
  intro R r s w hR hB hl
  have HRD := Lib.hid hR
  have HBR := Lib.hid hB
  have HLN := Lib.hid hl
  clear hR hB hl
  go_enter Try.func133, Try.ntmps133
  go_upto_region 2 with (fail)
  have HM0 := hid (Mod.refl (fun k => (R k)) w)
  go_upto_region 2 with (fail)
  refine wp_region_U 21 [6, 7, 8] [0, 1, 2] (fun a0 HA0 => ?_)
  have oe0 := ev HA0 0 rfl
  refine QSeq.pure rfl _ (fun E => ex_move rfl (E.v oe0)) ?_
  refine QSeq.call rfl rfl Try.func63 (RInt_R HRD.out (by decide)) (fun E => args2 (E.d 0 0) rfl) ?_
  rintro e u2_1 ⟨rfl, qrd, hm⟩
  refine ⟨_, rfl, ?_⟩
  have Hx1 := hid qrd
  have zu2_1 := hm.size
  have Cx2 := hid (show Mod (fun k => (R k)) w u2_1 from hm)
  clear hm
  clear qrd HRD
  refine QSeq.pure rfl (.int .i64 0) (fun E => ex_move rfl rfl) ?_
  refine QSeq.nil (t' := [_, _, _]) rfl ?_
  obtain rfl := HA0.out
  clear HA0 oe0
  simp only [pz, Act.put, List.setIfInBounds_toArray, List.set_cons_zero, List.set_cons_succ]
  obtain ⟨n, hn⟩ : ∃ n, n = (rInt 100 s).1 := ⟨_, rfl⟩
  obtain ⟨s1, hs1⟩ : ∃ z, z = (rInt 100 s).2 := ⟨_, rfl⟩
  have hn100 : n ≤ 100 := by have := rInt_le 100 s; omega
  have HLS := hid (show (s1.getD []).length ≤ 900000 by rw [hs1]; exact Nat.le_trans ((rInt_suf 100).len s) HLN.out)
  have HGL := hid (show gList gSt s = gItems gSt n [] s1 by rw [hn, hs1]; rfl)
  rw [← hn]
  have hq := Hx1.out
  rw [← hs1] at hq
  have HR1 := Lib.hid hq
  clear hq hn hs1 HLN
  go_wp2
  go_loopw [5, 8] (fun ta ti wr => ∃ (k : Nat) (acc : List St) (st : RSt), ti = .int .i64 (k : Int) ∧ k ≤ n ∧ acc.length = k ∧ (st.getD []).length ≤ 900000 ∧ gItems gSt (n - k) acc st = gItems gSt n [] s1 ∧ u2_1.heap.size ≤ wr.heap.size ∧ OwS StR 47 (fun b => w.heap.size ≤ b ∧ b < wr.heap.size) (fun b => w.heap.size ≤ b ∧ b < wr.heap.size) wr ta acc ∧ RrR 183 R wr r st ∧ Mod R w wr) (fun _ ti _ => n - (intOf ti).toNat)
  case atStart => exact ⟨0, [], s1, rfl, Nat.zero_le _, rfl, HLS.out, rfl, Nat.le_refl _, OwS.nil _ _ _ _ _, HR1.out, (HM0.out.trans Cx2.out (fun _ _ h => h))⟩
  case round =>
    obtain ⟨k, acc, st, rfl, hk, hka, hst, hg, hz, ha, hr, hm⟩ := hrel
    obtain ⟨wl, rfl⟩ : ∃ x, x = wr := ⟨_, rfl⟩
    obtain ⟨aol, capl, rfl⟩ := ha.shape
    have HAL := Lib.hid ha
    have HRL := Lib.hid hr
    have HML := Lib.hid hm
    have HST := Lib.hid hst
    have HG := Lib.hid hg
    have HKA := Lib.hid hka
    clear ha hr hm hst hg hka HR1 HM0
    by_cases hlt : k < n
    · skip
      go_upto_region 3 with (fail)
      refine wp_region_U 21 [9] [0] (fun a0 HA0 => ?_)
      have oe7 := ev HA0 7 rfl
      have oe8 := ev HA0 8 rfl
      refine QSeq.pure rfl (.bool true) (fun E => ex_binE rfl (E.v oe8) (E.v oe7) (guard_ints _ _ _ _ _ _) (run_lss_i _ _ _ Try.underlying3) (congrArg Value.bool (decide_eq_true (by omega)))) ?_
      refine QSeq.nil (t' := [_]) rfl ?_
      obtain rfl := HA0.out
      clear HA0 oe7 oe8
      simp only [pz, Act.put, List.setIfInBounds_toArray, List.set_cons_zero, List.set_cons_succ]
      obtain ⟨p, hp⟩ : ∃ p, p = gSt st := ⟨_, rfl⟩
      obtain ⟨x, st2⟩ := p
      have HP1 := hid (congrArg Prod.fst hp.symm)
      have HP2 := hid (congrArg Prod.snd hp.symm)
      clear hp
      dsimp only at HP1 HP2
      have HST2 := hid (show (st2.getD []).length ≤ 900000 by rw [← HP2.out]; exact Nat.le_trans (gSt_suf.len st) HST.out)
      have HGN := hid (show gItems gSt (n - k) acc st = if st2 = none then ([], none) else gItems gSt (n - (k + 1)) (acc ++ [x]) st2 by rw [show n - k = (n - (k + 1)) + 1 by omega]; show (if (gSt st).2 = none then _ else _) = _; rw [HP2.out, HP1.out])
      go_upto_region 4 with (fail)
      refine wp_region_U 21 [10, 11, 12, 13, 14, 15, 5] [0, 1, 2, 3, 4, 5, 6] (fun a0 HA0 => ?_)
      have oe0 := ev HA0 0 rfl
      have oe1 := ev HA0 1 rfl
      have oe5 := ev HA0 5 rfl
      refine QSeq.pure rfl _ (fun E => ex_move rfl (E.y 6 oe5)) ?_
      refine QSeq.pure rfl _ (fun E => ex_move rfl (E.v oe1)) ?_
      refine QSeq.pure rfl _ (fun E => ex_move rfl (E.v oe0)) ?_
      refine QSeq.go fun act E => ?_
      have ea12 : act.eval (.tmp 12) = .pointer (some ⟨r, 0, none⟩) := (E.d 2 0)
      refine qc_call (args := #[.pointer (some ⟨r, 0, none⟩)]) rfl (wanted_none rfl) (by rw [ex_callV rfl (E.d 1 1) Try.func99 (by kernel_rfl) (by kernel_rfl)]; exact congrArg (fun z => Result.ok (Next.enter _ z) _) (by simp only [List.map_toArray, List.map_cons, List.map_nil, ea12]; try rfl)) ((cSt_G).to HP1.out HP2.out HRL.out (by intro k h1; have hb := HBR.out k h1; omega) HST.out) ?_
      rintro e u4_3 ⟨cs, rfl, qel, qrd, hm⟩
      refine ⟨_, rfl, ?_⟩
      have Hx3 := hid qel
      have Hx4 := hid qrd
      have zu4_3 := hm.size
      have Cx5 := hid (show Mod (fun k => (R k)) wl u4_3 from hm)
      clear hm
      clear act E qel qrd HRL ea12
      refine QSeq.go fun act E => ?_
      refine qc_buildS (e := 47) (cs := cs) (zc := [.int .i64 0, .int .i64 0, .int .i64 0, .int .u8 0, .int .u8 0, .int .u8 0, .int .u8 0, .int .u8 0, .int .u8 0, .int .u8 0, .int .u8 0, .int .u8 0, .int .u8 0, .int .u8 0, .int .u8 0, .int .u8 0, .int .u8 0, .int .u8 0, .int .u8 0, .int .u8 0, .int .u8 0, .int .u8 0, .int .u8 0, .int .u8 0, .int .u8 0, .int .u8 0, .int .u8 0, .int .u8 0, .int .u8 0, .int .u8 0, .int .u8 0, .int .u8 0, .int .u8 0, .int .u8 0, .int .u8 0, .int .u64 0, .int .i64 0, .int .i64 0]) (sz := 38) rfl (wanted_none rfl) rfl Try.underlying82 (by kernel_rfl) rfl (by decide) (by decide) (E.d 3 0) (StR.len Hx3.out) ?_
      intro u4_4 qrow hm
      have zl4_4 := qrow.lt
      have Hx6 := hid qrow
      have zu4_4 := hm.size
      have HMu4_4 := hid hm
      have Cx7 := hid (Cx5.out.goE hm)
      clear hm Cx5
      clear act E qrow
      refine QSeq.go fun act E => ?_
      refine qc_appS (A := StR) (e := 47) rfl (wanted_none rfl) rfl (.agg #[.int .i64 0, .int .i64 0, .int .i64 0, .int .u8 0, .int .u8 0, .int .u8 0, .int .u8 0, .int .u8 0, .int .u8 0, .int .u8 0, .int .u8 0, .int .u8 0, .int .u8 0, .int .u8 0, .int .u8 0, .int .u8 0, .int .u8 0, .int .u8 0, .int .u8 0, .int .u8 0, .int .u8 0, .int .u8 0, .int .u8 0, .int .u8 0, .int .u8 0, .int .u8 0, .int .u8 0, .int .u8 0, .int .u8 0, .int .u8 0, .int .u8 0, .int .u8 0, .int .u8 0, .int .u8 0, .int .u8 0, .int .u64 0, .int .i64 0, .int .i64 0]) 80 Try.underlying82 info_St (by rfl) (of_decide_eq_true (by kernel_rfl)) (E.d 0 4) (E.d 4 0) ((HAL.out.mod Cx7.out (by intro k h1 h2; have hb := HBR.out k h2; omega) (by intro k h1 h2; have hb := HBR.out k h2; omega))) (RdS.single (R := (fun k => (New wl u4_3 k) ∨ (k = u4_3.heap.size))) Hx6.out ((Hx3.out.mod HMu4_4.out (fun _ _ h => h)).widen (by intro k h1; first | omega | exact h1.elim | exact Or.inl h1 | exact Or.inr (h1))) (by first | exact Or.inr rfl | exact Or.inr (Or.inr rfl) | (right; omega))) (by intro k h1 h2; omega) (by rw [HKA.out]; simp only [List.length_cons, List.length_nil]; omega) (by rw [HKA.out]; simp only [List.length_cons, List.length_nil]; rw [maxLen_val]; omega) ?_
      intro ao4 cap4 u4_5 qout hm
      have Hx8 := hid (qout.widen (R' := (fun k => (New w wl k) ∨ (New u4_4 u4_5 k))) (E' := (fun k => (New w wl k) ∨ (New wl u4_3 k) ∨ (k = u4_3.heap.size))) (fun _ h => h) (by intro k h1; rcases h1 with h1 | (h1 | h1) <;> first | omega | exact h1.elim | exact Or.inl h1 | exact Or.inr (Or.inl h1) | exact Or.inr (Or.inr (h1))))
      have zu4_5 := hm.size
      have HMu4_5 := hid hm
      have Cx9 := hid (Mod.goS (S' := (fun k => (R k) ∨ (New w wl k))) Cx7.out hm (fun _ h => Or.inl h) (by intro k h0 h2; exact Or.inr (h2)))
      clear hm Cx7
      clear act E qout HAL
      refine QSeq.pure rfl _ (fun E => ex_assign rfl (E.d 5 0)) ?_
      have Hx10 := hid ((Hx4.out.mod HMu4_4.out (fun _ _ h => h)).mod HMu4_5.out (sN HBR))
      have Hx11 := hid ((Hx3.out.mod HMu4_4.out (fun _ _ h => h)).mod HMu4_5.out (by intro k h1 h2; omega))
      have Hx12 := hid (Hx6.out.mod HMu4_5.out (by intro h2; omega))
      clear Hx4 Hx3 Hx6 HMu4_4 HMu4_5
      refine QSeq.nil (t' := [_, _, _, _, _, _, _]) rfl ?_
      obtain rfl := HA0.out
      clear HA0 oe0 oe1 oe5
      simp only [pz, Act.put, List.setIfInBounds_toArray, List.set_cons_zero, List.set_cons_succ]
      clear Hx11
      clear Hx12
      cases st2 with
      | none =>
        go_upto_region 5 with (fail)
        refine wp_region_U 21 [16, 17, 18] [0, 1, 2] (fun a0 HA0 => ?_)
        have oe0 := ev HA0 0 rfl
        refine QSeq.pure rfl _ (fun E => ex_move rfl (E.v oe0)) ?_
        refine QSeq.go fun act E => ?_
        refine qc_callF (args := #[.pointer (some ⟨r, 0, none⟩)]) rfl (wanted_none rfl) rfl Try.func64 (args1 (E.d 0 0)) (OK_R Hx10.out) ?_
        rintro e w2 ⟨rfl, hw2⟩
        obtain rfl : u4_5 = w2 := by first | exact hw2 | exact hw2.symm
        refine ⟨_, rfl, ?_⟩
        clear act E
        refine QSeq.pure rfl (.bool true) (fun E => ex_not rfl (E.d 1 0)) ?_
        refine QSeq.nil (t' := [_, _, _]) rfl ?_
        obtain rfl := HA0.out
        clear HA0 oe0
        simp only [pz, Act.put, List.setIfInBounds_toArray, List.set_cons_zero, List.set_cons_succ]
        go_upto_region 6 with (fail)
        refine wp_region_U 21 [4] [0] (fun a0 HA0 => ?_)
        refine QSeq.pure rfl (.slice none 0 0) (fun E => ex_assign rfl rfl) ?_
        refine QSeq.nil (t' := [_]) rfl ?_
        obtain rfl := HA0.out
        clear HA0
        simp only [pz, Act.put, List.setIfInBounds_toArray, List.set_cons_zero, List.set_cons_succ]
        go_wp2
        go_ret
        have hq := HG.out
        rw [HGN.out, if_pos trivial] at hq
        have e := HGL.out
        rw [← hq] at e
        refine ⟨_, rfl, ?_, ?_, (HML.out.trans Cx9.out (by intro k h1 h2; rcases h2 with h2 | h2 <;> first | exact h2 | omega | (have hb := HBR.out k h2; omega)))⟩
        · rw [e]; exact RdS.nil _ _ _
        · rw [e]; exact Hx10.out
      | some l2 =>
        go_upto_region 5 with (fail)
        refine wp_region_U 21 [16, 17, 18] [0, 1, 2] (fun a0 HA0 => ?_)
        have oe0 := ev HA0 0 rfl
        refine QSeq.pure rfl _ (fun E => ex_move rfl (E.v oe0)) ?_
        refine QSeq.go fun act E => ?_
        refine qc_callF (args := #[.pointer (some ⟨r, 0, none⟩)]) rfl (wanted_none rfl) rfl Try.func64 (args1 (E.d 0 0)) (OK_R Hx10.out) ?_
        rintro e w2 ⟨rfl, hw2⟩
        obtain rfl : u4_5 = w2 := by first | exact hw2 | exact hw2.symm
        refine ⟨_, rfl, ?_⟩
        clear act E
        refine QSeq.pure rfl (.bool false) (fun E => ex_not rfl (E.d 1 0)) ?_
        refine QSeq.nil (t' := [_, _, _]) rfl ?_
        obtain rfl := HA0.out
        clear HA0 oe0
        simp only [pz, Act.put, List.setIfInBounds_toArray, List.set_cons_zero, List.set_cons_succ]
        go_upto_region 7 with (fail)
        refine wp_region_U 21 [19, 8] [0, 1] (fun a0 HA0 => ?_)
        have oe8 := ev HA0 8 rfl
        refine QSeq.pure rfl (.int .i64 (((k : Nat) : Int) + 1)) (fun E => ex_binE rfl (E.y 1 oe8) rfl (guard_ints _ _ _ _ _ _) (run_add_i _ _ Try.underlying3) (congrArg (Value.int .i64) (IntWalk.i64_in _ (by omega)))) ?_
        refine QSeq.pure rfl _ (fun E => ex_move rfl (E.d 0 0)) ?_
        refine QSeq.nil (t' := [_, _]) rfl ?_
        obtain rfl := HA0.out
        clear HA0 oe8
        simp only [pz, Act.put, List.setIfInBounds_toArray, List.set_cons_zero, List.set_cons_succ]
        go_wp2
        go_roundw
        case rel => exact ⟨k + 1, acc ++ [x], some l2, by go_num, by omega, by rw [List.length_append, HKA.out]; rfl, HST2.out, (by have hq := HG.out; rw [HGN.out, if_neg (by simp)] at hq; exact hq), by omega, (Hx8.out.widen (by intro b h1; omega) (by intro b h1; rcases h1 with h1 | h1 | h1 <;> first | omega | exact h1.elim)), Hx10.out, (HML.out.trans Cx9.out (by intro k h1 h2; rcases h2 with h2 | h2 <;> first | exact h2 | omega | (have hb := HBR.out k h2; omega)))⟩
        case measure => simp [intOf] <;> omega
    · obtain rfl : n = k := by omega
      go_upto_region 3 with (fail)
      refine wp_region_U 21 [9] [0] (fun a0 HA0 => ?_)
      have oe7 := ev HA0 7 rfl
      have oe8 := ev HA0 8 rfl
      refine QSeq.pure rfl (.bool false) (fun E => ex_binE rfl (E.v oe8) (E.v oe7) (guard_ints _ _ _ _ _ _) (run_lss_i _ _ _ Try.underlying3) (congrArg Value.bool (decide_eq_false (by omega)))) ?_
      refine QSeq.nil (t' := [_]) rfl ?_
      obtain rfl := HA0.out
      clear HA0 oe7 oe8
      simp only [pz, Act.put, List.setIfInBounds_toArray, List.set_cons_zero, List.set_cons_succ]
      go_upto_region 8 with (fail)
      refine wp_region_U 21 [20, 4] [0, 1] (fun a0 HA0 => ?_)
      have oe5 := ev HA0 5 rfl
      refine QSeq.pure rfl _ (fun E => ex_move rfl (E.v oe5)) ?_
      refine QSeq.pure rfl _ (fun E => ex_assign rfl (E.d 0 0)) ?_
      refine QSeq.nil (t' := [_, _]) rfl ?_
      obtain rfl := HA0.out
      clear HA0 oe5
      simp only [pz, Act.put, List.setIfInBounds_toArray, List.set_cons_zero, List.set_cons_succ]
      go_wp2
      go_ret
      have hq := HG.out
      rw [Nat.sub_self] at hq
      have e := HGL.out
      rw [← hq] at e
      refine ⟨_, rfl, ?_, ?_, HML.out⟩
      · rw [e]; exact HAL.out.rd.widen (by intro b h1; (try dsimp only at h1 ⊢); omega)
      · rw [e]; exact HRL.out
set_option maxHeartbeats 4000000 in
theorem cList_Dn : GetsL DnR 183 147 108 gDn := by
  intro R r s w hR hB hl
  have HRD := Lib.hid hR
  have HBR := Lib.hid hB
  have HLN := Lib.hid hl
  clear hR hB hl
  go_enter Try.func147, Try.ntmps147
  go_upto_region 2 with (fail)
  have HM0 := hid (Mod.refl (fun k => (R k)) w)
  go_upto_region 2 with (fail)
  refine wp_region_U 21 [6, 7, 8] [0, 1, 2] (fun a0 HA0 => ?_)
  have oe0 := ev HA0 0 rfl
  refine QSeq.pure rfl _ (fun E => ex_move rfl (E.v oe0)) ?_
  refine QSeq.call rfl rfl Try.func63 (RInt_R HRD.out (by decide)) (fun E => args2 (E.d 0 0) rfl) ?_
  rintro e u2_1 ⟨rfl, qrd, hm⟩
  refine ⟨_, rfl, ?_⟩
  have Hx1 := hid qrd
  have zu2_1 := hm.size
  have Cx2 := hid (show Mod (fun k => (R k)) w u2_1 from hm)
  clear hm
  clear qrd HRD
  refine QSeq.pure rfl (.int .i64 0) (fun E => ex_move rfl rfl) ?_
  refine QSeq.nil (t' := [_, _, _]) rfl ?_
  obtain rfl := HA0.out
  clear HA0 oe0
  simp only [pz, Act.put, List.setIfInBounds_toArray, List.set_cons_zero, List.set_cons_succ]
  obtain ⟨n, hn⟩ : ∃ n, n = (rInt 100 s).1 := ⟨_, rfl⟩
  obtain ⟨s1, hs1⟩ : ∃ z, z = (rInt 100 s).2 := ⟨_, rfl⟩
  have hn100 : n ≤ 100 := by have := rInt_le 100 s; omega
  have HLS := hid (show (s1.getD []).length ≤ 900000 by rw [hs1]; exact Nat.le_trans ((rInt_suf 100).len s) HLN.out)
  have HGL := hid (show gList gDn s = gItems gDn n [] s1 by rw [hn, hs1]; rfl)
  rw [← hn]
  have hq := Hx1.out
  rw [← hs1] at hq
  have HR1 := Lib.hid hq
  clear hq hn hs1 HLN
  go_wp2
  go_loopw [5, 8] (fun ta ti wr => ∃ (k : Nat) (acc : List Dn) (st : RSt), ti = .int .i64 (k : Int) ∧ k ≤ n ∧ acc.length = k ∧ (st.getD []).length ≤ 900000 ∧ gItems gDn (n - k) acc st = gItems gDn n [] s1 ∧ u2_1.heap.size ≤ wr.heap.size ∧ OwS DnR 104 (fun b => w.heap.size ≤ b ∧ b < wr.heap.size) (fun b => w.heap.size ≤ b ∧ b < wr.heap.size) wr ta acc ∧ RrR 183 R wr r st ∧ Mod R w wr) (fun _ ti _ => n - (intOf ti).toNat)
  case atStart => exact ⟨0, [], s1, rfl, Nat.zero_le _, rfl, HLS.out, rfl, Nat.le_refl _, OwS.nil _ _ _ _ _, HR1.out, (HM0.out.trans Cx2.out (fun _ _ h => h))⟩
  case round =>
    obtain ⟨k, acc, st, rfl, hk, hka, hst, hg, hz, ha, hr, hm⟩ := hrel
    obtain ⟨wl, rfl⟩ : ∃ x, x = wr := ⟨_, rfl⟩
    obtain ⟨aol, capl, rfl⟩ := ha.shape
    have HAL := Lib.hid ha
    have HRL := Lib.hid hr
    have HML := Lib.hid hm
    have HST := Lib.hid hst
    have HG := Lib.hid hg
    have HKA := Lib.hid hka
    clear ha hr hm hst hg hka HR1 HM0
    by_cases hlt : k < n
    · skip
      go_upto_region 3 with (fail)
      refine wp_region_U 21 [9] [0] (fun a0 HA0 => ?_)
      have oe7 := ev HA0 7 rfl
      have oe8 := ev HA0 8 rfl
      refine QSeq.pure rfl (.bool true) (fun E => ex_binE rfl (E.v oe8) (E.v oe7) (guard_ints _ _ _ _ _ _) (run_lss_i _ _ _ Try.underlying3) (congrArg Value.bool (decide_eq_true (by omega)))) ?_
      refine QSeq.nil (t' := [_]) rfl ?_
      obtain rfl := HA0.out
      clear HA0 oe7 oe8
      simp only [pz, Act.put, List.setIfInBounds_toArray, List.set_cons_zero, List.set_cons_succ]
      obtain ⟨p, hp⟩ : ∃ p, p = gDn st := ⟨_, rfl⟩
      obtain ⟨x, st2⟩ := p
      have HP1 := hid (congrArg Prod.fst hp.symm)
      have HP2 := hid (congrArg Prod.snd hp.symm)
      clear hp
      dsimp only at HP1 HP2
      have HST2 := hid (show (st2.getD []).length ≤ 900000 by rw [← HP2.out]; exact Nat.le_trans (gDn_suf.len st) HST.out)
      have HGN := hid (show gItems gDn (n - k) acc st = if st2 = none then ([], none) else gItems gDn (n - (k + 1)) (acc ++ [x]) st2 by rw [show n - k = (n - (k + 1)) + 1 by omega]; show (if (gDn st).2 = none then _ else _) = _; rw [HP2.out, HP1.out])
      go_upto_region 4 with (fail)
      refine wp_region_U 21 [10, 11, 12, 13, 14, 15, 5] [0, 1, 2, 3, 4, 5, 6] (fun a0 HA0 => ?_)
      have oe0 := ev HA0 0 rfl
      have oe1 := ev HA0 1 rfl
      have oe5 := ev HA0 5 rfl
      refine QSeq.pure rfl _ (fun E => ex_move rfl (E.y 6 oe5)) ?_
      refine QSeq.pure rfl _ (fun E => ex_move rfl (E.v oe1)) ?_
      refine QSeq.pure rfl _ (fun E => ex_move rfl (E.v oe0)) ?_
      refine QSeq.go fun act E => ?_
      have ea12 : act.eval (.tmp 12) = .pointer (some ⟨r, 0, none⟩) := (E.d 2 0)
      refine qc_call (args := #[.pointer (some ⟨r, 0, none⟩)]) rfl (wanted_none rfl) (by rw [ex_callV rfl (E.d 1 1) Try.func108 (by kernel_rfl) (by kernel_rfl)]; exact congrArg (fun z => Result.ok (Next.enter _ z) _) (by simp only [List.map_toArray, List.map_cons, List.map_nil, ea12]; try rfl)) ((cDn_G).to HP1.out HP2.out HRL.out (by intro k h1; have hb := HBR.out k h1; omega) HST.out) ?_
      rintro e u4_3 ⟨cs, rfl, qel, qrd, hm⟩
      refine ⟨_, rfl, ?_⟩
      have Hx3 := hid qel
      have Hx4 := hid qrd
      have zu4_3 := hm.size
      have Cx5 := hid (show Mod (fun k => (R k)) wl u4_3 from hm)
      clear hm
      clear act E qel qrd HRL ea12
      refine QSeq.go fun act E => ?_
      refine qc_buildS (e := 104) (cs := cs) (zc := [.int .i64 0, .int .i64 0, .int .i64 0, .int .i64 0]) (sz := 4) rfl (wanted_none rfl) rfl Try.underlying212 (by kernel_rfl) rfl (by decide) (by decide) (E.d 3 0) (DnR.len Hx3.out) ?_
      intro u4_4 qrow hm
      have zl4_4 := qrow.lt
      have Hx6 := hid qrow
      have zu4_4 := hm.size
      have HMu4_4 := hid hm
      have Cx7 := hid (Cx5.out.goE hm)
      clear hm Cx5
      clear act E qrow
      refine QSeq.go fun act E => ?_
      refine qc_appS (A := DnR) (e := 104) rfl (wanted_none rfl) rfl (.agg #[.int .i64 0, .int .i64 0, .int .i64 0, .int .i64 0]) 32 Try.underlying212 info_Dn (by rfl) (of_decide_eq_true (by kernel_rfl)) (E.d 0 4) (E.d 4 0) ((HAL.out.mod Cx7.out (by intro k h1 h2; have hb := HBR.out k h2; omega) (by intro k h1 h2; have hb := HBR.out k h2; omega))) (RdS.single (R := (fun k => (New wl u4_3 k) ∨ (k = u4_3.heap.size))) Hx6.out ((Hx3.out.mod HMu4_4.out (fun _ _ h => h)).widen (by intro k h1; first | omega | exact h1.elim | exact Or.inl h1 | exact Or.inr (h1))) (by first | exact Or.inr rfl | exact Or.inr (Or.inr rfl) | (right; omega))) (by intro k h1 h2; omega) (by rw [HKA.out]; simp only [List.length_cons, List.length_nil]; omega) (by rw [HKA.out]; simp only [List.length_cons, List.length_nil]; rw [maxLen_val]; omega) ?_
      intro ao4 cap4 u4_5 qout hm
      have Hx8 := hid (qout.widen (R' := (fun k => (New w wl k) ∨ (New u4_4 u4_5 k))) (E' := (fun k => (New w wl k) ∨ (New wl u4_3 k) ∨ (k = u4_3.heap.size))) (fun _ h => h) (by intro k h1; rcases h1 with h1 | (h1 | h1) <;> first | omega | exact h1.elim | exact Or.inl h1 | exact Or.inr (Or.inl h1) | exact Or.inr (Or.inr (h1))))
      have zu4_5 := hm.size
      have HMu4_5 := hid hm
      have Cx9 := hid (Mod.goS (S' := (fun k => (R k) ∨ (New w wl k))) Cx7.out hm (fun _ h => Or.inl h) (by intro k h0 h2; exact Or.inr (h2)))
      clear hm Cx7
      clear act E qout HAL
      refine QSeq.pure rfl _ (fun E => ex_assign rfl (E.d 5 0)) ?_
      have Hx10 := hid ((Hx4.out.mod HMu4_4.out (fun _ _ h => h)).mod HMu4_5.out (sN HBR))
      have Hx11 := hid ((Hx3.out.mod HMu4_4.out (fun _ _ h => h)).mod HMu4_5.out (by intro k h1 h2; omega))
      have Hx12 := hid (Hx6.out.mod HMu4_5.out (by intro h2; omega))
      clear Hx4 Hx3 Hx6 HMu4_4 HMu4_5
      refine QSeq.nil (t' := [_, _, _, _, _, _, _]) rfl ?_
      obtain rfl := HA0.out
      clear HA0 oe0 oe1 oe5
      simp only [pz, Act.put, List.setIfInBounds_toArray, List.set_cons_zero, List.set_cons_succ]
      clear Hx11
      clear Hx12
      cases st2 with
      | none =>
        go_upto_region 5 with (fail)
        refine wp_region_U 21 [16, 17, 18] [0, 1, 2] (fun a0 HA0 => ?_)
        have oe0 := ev HA0 0 rfl
        refine QSeq.pure rfl _ (fun E => ex_move rfl (E.v oe0)) ?_
        refine QSeq.go fun act E => ?_
        refine qc_callF (args := #[.pointer (some ⟨r, 0, none⟩)]) rfl (wanted_none rfl) rfl Try.func64 (args1 (E.d 0 0)) (OK_R Hx10.out) ?_
        rintro e w2 ⟨rfl, hw2⟩
        obtain rfl : u4_5 = w2 := by first | exact hw2 | exact hw2.symm
        refine ⟨_, rfl, ?_⟩
        clear act E
        refine QSeq.pure rfl (.bool true) (fun E => ex_not rfl (E.d 1 0)) ?_
        refine QSeq.nil (t' := [_, _, _]) rfl ?_
        obtain rfl := HA0.out
        clear HA0 oe0
        simp only [pz, Act.put, List.setIfInBounds_toArray, List.set_cons_zero, List.set_cons_succ]
        go_upto_region 6 with (fail)
        refine wp_region_U 21 [4] [0] (fun a0 HA0 => ?_)
        refine QSeq.pure rfl (.slice none 0 0) (fun E => ex_assign rfl rfl) ?_
        refine QSeq.nil (t' := [_]) rfl ?_
        obtain rfl := HA0.out
        clear HA0
        simp only [pz, Act.put, List.setIfInBounds_toArray, List.set_cons_zero, List.set_cons_succ]
        go_wp2
        go_ret
        have hq := HG.out
        rw [HGN.out, if_pos trivial] at hq
        have e := HGL.out
        rw [← hq] at e
        refine ⟨_, rfl, ?_, ?_, (HML.out.trans Cx9.out (by intro k h1 h2; rcases h2 with h2 | h2 <;> first | exact h2 | omega | (have hb := HBR.out k h2; omega)))⟩
        · rw [e]; exact RdS.nil _ _ _
        · rw [e]; exact Hx10.out
      | some l2 =>
        go_upto_region 5 with (fail)
        refine wp_region_U 21 [16, 17, 18] [0, 1, 2] (fun a0 HA0 => ?_)
        have oe0 := ev HA0 0 rfl
        refine QSeq.pure rfl _ (fun E => ex_move rfl (E.v oe0)) ?_
        refine QSeq.go fun act E => ?_
        refine qc_callF (args := #[.pointer (some ⟨r, 0, none⟩)]) rfl (wanted_none rfl) rfl Try.func64 (args1 (E.d 0 0)) (OK_R Hx10.out) ?_
        rintro e w2 ⟨rfl, hw2⟩
        obtain rfl : u4_5 = w2 := by first | exact hw2 | exact hw2.symm
        refine ⟨_, rfl, ?_⟩
        clear act E
        refine QSeq.pure rfl (.bool false) (fun E => ex_not rfl (E.d 1 0)) ?_
        refine QSeq.nil (t' := [_, _, _]) rfl ?_
        obtain rfl := HA0.out
        clear HA0 oe0
        simp only [pz, Act.put, List.setIfInBounds_toArray, List.set_cons_zero, List.set_cons_succ]
        go_upto_region 7 with (fail)
        refine wp_region_U 21 [19, 8] [0, 1] (fun a0 HA0 => ?_)
        have oe8 := ev HA0 8 rfl
        refine QSeq.pure rfl (.int .i64 (((k : Nat) : Int) + 1)) (fun E => ex_binE rfl (E.y 1 oe8) rfl (guard_ints _ _ _ _ _ _) (run_add_i _ _ Try.underlying3) (congrArg (Value.int .i64) (IntWalk.i64_in _ (by omega)))) ?_
        refine QSeq.pure rfl _ (fun E => ex_move rfl (E.d 0 0)) ?_
        refine QSeq.nil (t' := [_, _]) rfl ?_
        obtain rfl := HA0.out
        clear HA0 oe8
        simp only [pz, Act.put, List.setIfInBounds_toArray, List.set_cons_zero, List.set_cons_succ]
        go_wp2
        go_roundw
        case rel => exact ⟨k + 1, acc ++ [x], some l2, by go_num, by omega, by rw [List.length_append, HKA.out]; rfl, HST2.out, (by have hq := HG.out; rw [HGN.out, if_neg (by simp)] at hq; exact hq), by omega, (Hx8.out.widen (by intro b h1; omega) (by intro b h1; rcases h1 with h1 | h1 | h1 <;> first | omega | exact h1.elim)), Hx10.out, (HML.out.trans Cx9.out (by intro k h1 h2; rcases h2 with h2 | h2 <;> first | exact h2 | omega | (have hb := HBR.out k h2; omega)))⟩
        case measure => simp [intOf] <;> omega
    · obtain rfl : n = k := by omega
      go_upto_region 3 with (fail)
      refine wp_region_U 21 [9] [0] (fun a0 HA0 => ?_)
      have oe7 := ev HA0 7 rfl
      have oe8 := ev HA0 8 rfl
      refine QSeq.pure rfl (.bool false) (fun E => ex_binE rfl (E.v oe8) (E.v oe7) (guard_ints _ _ _ _ _ _) (run_lss_i _ _ _ Try.underlying3) (congrArg Value.bool (decide_eq_false (by omega)))) ?_
      refine QSeq.nil (t' := [_]) rfl ?_
      obtain rfl := HA0.out
      clear HA0 oe7 oe8
      simp only [pz, Act.put, List.setIfInBounds_toArray, List.set_cons_zero, List.set_cons_succ]
      go_upto_region 8 with (fail)
      refine wp_region_U 21 [20, 4] [0, 1] (fun a0 HA0 => ?_)
      have oe5 := ev HA0 5 rfl
      refine QSeq.pure rfl _ (fun E => ex_move rfl (E.v oe5)) ?_
      refine QSeq.pure rfl _ (fun E => ex_assign rfl (E.d 0 0)) ?_
      refine QSeq.nil (t' := [_, _]) rfl ?_
      obtain rfl := HA0.out
      clear HA0 oe5
      simp only [pz, Act.put, List.setIfInBounds_toArray, List.set_cons_zero, List.set_cons_succ]
      go_wp2
      go_ret
      have hq := HG.out
      rw [Nat.sub_self] at hq
      have e := HGL.out
      rw [← hq] at e
      refine ⟨_, rfl, ?_, ?_, HML.out⟩
      · rw [e]; exact HAL.out.rd.widen (by intro b h1; (try dsimp only at h1 ⊢); omega)
      · rw [e]; exact HRL.out
end Go.Proofs.Ytpnikilkcifncaa
