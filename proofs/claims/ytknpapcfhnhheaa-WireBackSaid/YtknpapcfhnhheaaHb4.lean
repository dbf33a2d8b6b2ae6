/- Texts that are built one behind the other: XSeg, XGl, XNa, XNb, XNc. No condition. -/
import Derived.Test.YtknpapcfhnhheaaHb3
/- A block's cells as parts, one behind the other: what lies at a part, what is laid over one, what a struct is built of. No program here. -/
set_option linter.unusedVariables false
namespace Go.Gv
open Go Go.RowKit

theorem seg_get : ∀ (segs : List (List Value)) (i : Nat) {seg : List Value} (hs : segs[i]? = some seg) (j : Nat) (u : Value), seg[j]? = some u → segs.flatten[((segs.map List.length).take i).sum + j]? = some u
  | [], i, seg, hs, j, u, hu => by simp at hs
  | a :: r, 0, seg, hs, j, u, hu => by
    simp only [List.getElem?_cons_zero, Option.some.injEq] at hs
    subst hs
    rw [List.take_zero, List.sum_nil, Nat.zero_add, List.flatten_cons, List.getElem?_append_left (List.getElem?_eq_some_iff.1 hu).1]
    exact hu
  | a :: r, i + 1, seg, hs, j, u, hu => by
    rw [List.getElem?_cons_succ] at hs
    rw [List.map_cons, List.take_succ_cons, List.sum_cons, List.flatten_cons, List.getElem?_append_right (by omega), show a.length + ((r.map List.length).take i).sum + j - a.length = ((r.map List.length).take i).sum + j by omega]
    exact seg_get r i hs j u hu
theorem Cs.seg {w : World} {g : Nat} {T : TypeId} {segs : List (List Value)} (h : Cs w g segs.flatten.toArray T) {ns : List Nat} (hn : segs.map List.length = ns) (i : Nat) {seg : List Value} (hs : segs[i]? = some seg) {off : Nat} (ho : (ns.take i).sum = off) : ∀ j u, seg[j]? = some u → w.cell? ⟨g, off + j, none⟩ = some u := by
  intro j u hu
  rw [h.cell, ← ho, ← hn]
  simpa using seg_get segs i hs j u hu
theorem lay_mid (a m b : List Value) (vs : List Value) (h : vs.length = m.length) : lay (a ++ (m ++ b)).toArray a.length vs = (a ++ (vs ++ b)).toArray := by
  unfold lay
  congr 1
  simp [h]
theorem seg_split : ∀ (segs : List (List Value)) (i : Nat) {seg : List Value} (hs : segs[i]? = some seg), ∃ a b, segs.flatten = a ++ (seg ++ b) ∧ a.length = ((segs.map List.length).take i).sum ∧ ∀ v : List Value, (segs.set i v).flatten = a ++ (v ++ b)
  | [], i, seg, hs => by simp at hs
  | x :: r, 0, seg, hs => by
    simp only [List.getElem?_cons_zero, Option.some.injEq] at hs
    subst hs
    exact ⟨[], r.flatten, rfl, rfl, fun v => rfl⟩
  | x :: r, i + 1, seg, hs => by
    rw [List.getElem?_cons_succ] at hs
    obtain ⟨a, b, h1, h2, h3⟩ := seg_split r i hs
    refine ⟨x ++ a, b, by rw [List.flatten_cons, h1, List.append_assoc], by simp [h2], fun v => ?_⟩
    rw [List.set_cons_succ, List.flatten_cons, h3, List.append_assoc]
theorem lay_seg {segs : List (List Value)} {ns : List Nat} (hn : segs.map List.length = ns) (i : Nat) {vs : List Value} (hv : ns[i]? = some vs.length) {off : Nat} (ho : (ns.take i).sum = off) : lay segs.flatten.toArray off vs = ((segs.set i vs).flatten).toArray := by
  subst hn
  rw [List.getElem?_map] at hv
  cases hs : segs[i]? with
  | none => rw [hs] at hv; cases hv
  | some seg =>
    rw [hs] at hv
    simp only [Option.map_some, Option.some.injEq] at hv
    obtain ⟨a, b, h1, h2, h3⟩ := seg_split segs i hs
    rw [h1, h3, ← ho, ← h2]
    exact lay_mid a seg b vs hv.symm
/-- where parts of such lengths lie -/
def offs : Nat → List Nat → List (Nat × Nat)
  | _, [] => []
  | o, n :: ns => (o, n) :: offs (o + n) ns
theorem offs_get : ∀ (ns : List Nat) (o i : Nat), (offs o ns)[i]? = (ns[i]?).map fun n => (o + (ns.take i).sum, n)
  | [], o, i => by simp [offs]
  | n :: ns, o, 0 => by simp [offs]
  | n :: ns, o, i + 1 => by
    simp only [offs, List.getElem?_cons_succ, offs_get ns (o + n) i, List.take_succ_cons, List.sum_cons]
    congr 1
    funext m
    rw [Nat.add_assoc]
/-- parts, each where it belongs -/
def setAll : List (List Value) → List (Nat × Value) → List (List Value)
  | segs, [] => segs
  | segs, (i, v) :: ps => setAll (segs.set i v.cells.toList) ps
def PartsOk (ns : List Nat) : List (Nat × Value) → Prop
  | [] => True
  | (i, v) :: ps => ns[i]? = some v.cells.size ∧ PartsOk ns ps
theorem set_lens {segs : List (List Value)} {ns : List Nat} (hn : segs.map List.length = ns) (i : Nat) {vs : List Value} (hv : ns[i]? = some vs.length) : (segs.set i vs).map List.length = ns := by
  subst hn
  rw [List.map_set]
  exact List.ext_getElem? fun j => by
    rcases Nat.lt_trichotomy i j with h | h | h
    · rw [List.getElem?_set_ne (by omega)]
    · subst h
      rw [List.getElem?_set_self (List.getElem?_eq_some_iff.1 hv).1, hv]
    · rw [List.getElem?_set_ne (by omega)]
theorem laid_segs {places : List (Nat × Nat)} {ns : List Nat} (hp : places = offs 0 ns) : ∀ (parts : List (Nat × Value)) (segs : List (List Value)), segs.map List.length = ns → PartsOk ns parts → laid places segs.flatten parts = some (setAll segs parts).flatten
  | [], segs, _, _ => by unfold laid setAll; rfl
  | (i, v) :: ps, segs, hn, h => by
    obtain ⟨h1, h2⟩ := h
    have h1' : ns[i]? = some v.cells.toList.length := by simpa using h1
    have hl := lay_seg hn i h1' rfl
    unfold laid setAll
    rw [hp, offs_get, h1]
    simp only [Option.map_some, Nat.zero_add]
    have hlen : (ns.take i).sum + v.cells.size ≤ segs.flatten.length := by
      subst hn
      rw [List.getElem?_map] at h1
      cases hs : segs[i]? with
      | none => rw [hs] at h1; cases h1
      | some seg =>
        rw [hs] at h1
        simp only [Option.map_some, Option.some.injEq] at h1
        obtain ⟨a, b, e1, e2, -⟩ := seg_split segs i hs
        rw [e1, ← e2, ← h1]
        simp
    rw [if_neg (by omega)]
    have e : (segs.flatten.take (ns.take i).sum ++ v.cells.toList ++ segs.flatten.drop ((ns.take i).sum + v.cells.size)) = (segs.set i v.cells.toList).flatten := by
      have := congrArg Array.toList hl
      simpa [lay] using this
    simp only [e] at *
    rw [← hp]
    exact laid_segs hp ps _ (set_lens hn i h1') h2
end Go.Gv

/- Readers of parts: what they leave of a text, whether what they read is a thing of its kind; contracts. -/
set_option maxRecDepth 100000
set_option linter.unusedVariables false
namespace Go.Proofs.Ytknpapcfhnhheaa
open Go Go.RowKit Go.Gv

/-- what is left is an end of what there was -/
def Suf {α : Type} (g : RSt → α × RSt) : Prop := ∀ s, (g s).2 = none ∨ ∃ l k, s = some l ∧ (g s).2 = some (l.drop k)
theorem Suf.no {α : Type} {g : RSt → α × RSt} (h : Suf g) : (g none).2 = none := by
  rcases h none with h | ⟨l, k, e, -⟩
  · exact h
  · cases e
theorem Suf.bytes {α : Type} {g : RSt → α × RSt} (h : Suf g) {s : RSt} (hb : Bytes (s.getD [])) : Bytes ((g s).2.getD []) := by
  rcases h s with e | ⟨l, k, rfl, e⟩
  · rw [e]; exact Bytes.nil
  · rw [e]; exact Bytes.drop hb k
theorem Suf.len {α : Type} {g : RSt → α × RSt} (h : Suf g) (s : RSt) : ((g s).2.getD []).length ≤ (s.getD []).length := by
  rcases h s with e | ⟨l, k, rfl, e⟩
  · rw [e]; simp
  · rw [e]; simp
theorem gb_suf {α β : Type} {g : RSt → α × RSt} {k : α → RSt → β × RSt} (hg : Suf g) (hk : ∀ a, Suf (k a)) : Suf (gb g k) := by
  intro s
  rcases hg s with e | ⟨l, i, rfl, e⟩
  · left
    unfold gb
    rw [e]
    exact (hk _).no
  · rcases hk (g (some l)).1 (g (some l)).2 with e2 | ⟨l2, j, e2, e3⟩
    · exact Or.inl e2
    · rw [e] at e2
      cases e2
      exact Or.inr ⟨l, i + j, rfl, by rw [← List.drop_drop]; exact e3⟩
theorem pure_suf {β : Type} (y : β) : Suf (fun s => (y, s)) := by
  intro s
  cases s with
  | none => exact Or.inl rfl
  | some l => exact Or.inr ⟨l, 0, rfl, rfl⟩
theorem rNum_suf : Suf rNum := by
  intro s
  cases s with
  | none => exact Or.inl rfl
  | some l =>
    cases hd : decGo 0 0 l with
    | none => rw [rNum_none hd]; exact Or.inl rfl
    | some p =>
      obtain ⟨n, q⟩ := p
      obtain ⟨k, -, -, rfl⟩ := decGo_rest l 0 0 n q hd
      rw [rNum_some hd]
      exact Or.inr ⟨l, k, rfl, rfl⟩
theorem rInt_suf (most : Int) : Suf (rInt most) := by
  intro s
  unfold rInt
  split
  · exact Or.inl rfl
  · exact rNum_suf s
theorem gI_suf : Suf gI := fun s => rInt_suf _ s
theorem rTake_suf (n : Nat) : Suf (rTake n) := by
  intro s
  cases s with
  | none => exact Or.inl rfl
  | some l =>
    simp only [rTake]
    split
    · exact Or.inl rfl
    · exact Or.inr ⟨l, n, rfl, rfl⟩
theorem rHash_suf : Suf rHash := by
  intro s
  have h := rTake_suf 32 s
  unfold rHash
  revert h
  generalize rTake 32 s = p
  obtain ⟨b, q⟩ := p
  cases q with
  | none => intro _; exact Or.inl rfl
  | some q => intro h; exact h
theorem rRow_suf (most : Int) : Suf (rRow most) := by
  intro s
  unfold rRow
  exact gb_suf (g := rInt most) (k := fun n => rTake n) (rInt_suf most) (fun n => rTake_suf n) s
theorem gItems_suf {α : Type} {g : RSt → α × RSt} (hg : Suf g) : ∀ (n : Nat) (acc : List α), Suf (gItems g n acc)
  | 0, acc => pure_suf acc
  | n + 1, acc => by
    intro s
    simp only [gItems]
    split
    · exact Or.inl rfl
    · exact gb_suf hg (fun a => gItems_suf hg n (acc ++ [a])) s
theorem gList_suf {α : Type} {g : RSt → α × RSt} (hg : Suf g) : Suf (gList g) := by
  intro s
  exact gb_suf (g := rInt 100) (k := fun n => gItems g n []) (rInt_suf 100) (fun n => gItems_suf hg n []) s
theorem gSig_suf : Suf gSig := gb_suf gI_suf fun _ => gb_suf gI_suf fun _ => pure_suf _
theorem gCm_suf : Suf gCm := gb_suf gSig_suf fun _ => gb_suf rHash_suf fun _ => gb_suf gI_suf fun _ => gb_suf gSig_suf fun _ => pure_suf _
theorem gSt_suf : Suf gSt := gb_suf gI_suf fun _ => gb_suf gSig_suf fun _ => gb_suf rHash_suf fun _ => gb_suf rNum_suf fun _ => gb_suf gSig_suf fun _ => pure_suf _
theorem gCe_suf : Suf gCe := gb_suf gCm_suf fun _ => gb_suf (gList_suf gSt_suf) fun _ => pure_suf _
theorem gPm_suf : Suf gPm := gb_suf gI_suf fun _ => gb_suf gI_suf fun _ => gb_suf rNum_suf fun _ => gb_suf (gList_suf gCe_suf) fun _ => gb_suf gSig_suf fun _ => pure_suf _
theorem gOp_suf : Suf gOp := gb_suf gI_suf fun _ => gb_suf (rRow_suf _) fun _ => gb_suf rHash_suf fun _ => pure_suf _
theorem gDn_suf : Suf gDn := gb_suf gI_suf fun _ => gb_suf gI_suf fun _ => gb_suf gSig_suf fun _ => pure_suf _
theorem gTb_suf : Suf gTb := gb_suf gI_suf fun _ => gb_suf (gList_suf gDn_suf) fun _ => pure_suf _
/-! what is read is a thing -/
theorem gI_I64 (s : RSt) : I64 (gI s).1 := by
  have := rInt_le 1099511627776 s
  unfold gI I64
  simp only
  omega
theorem rHash_HK {s : RSt} (hb : Bytes (s.getD [])) : HK (rHash s).1 := by
  refine ⟨rHash_l s, ?_⟩
  cases s with
  | none => intro x hx; simp [rHash, rTake] at hx; subst hx; decide
  | some l =>
    by_cases h : l.length < 32
    · have e : rHash (some l) = (List.replicate 32 0, none) := by simp [rHash, rTake, h]
      rw [e]
      intro x hx
      simp at hx
      subst hx
      decide
    · have e : rHash (some l) = (l.take 32, some (l.drop 32)) := by simp [rHash, rTake, h]
      rw [e]
      exact Bytes.take hb 32
theorem gCm_OK {s : RSt} (hb : Bytes (s.getD [])) : (gCm s).1.OK := ⟨⟨gI_I64 _, gI_I64 _, gI_I64 _, gI_I64 _, gI_I64 _⟩, rHash_HK (gSig_suf.bytes hb)⟩
theorem gSt_OK {s : RSt} (hb : Bytes (s.getD [])) : (gSt s).1.OK := ⟨gI_I64 _, gI_I64 _, gI_I64 _, rHash_HK (gSig_suf.bytes (gI_suf.bytes hb)), rNum_lt (rHash_suf.bytes (gSig_suf.bytes (gI_suf.bytes hb))), gI_I64 _, gI_I64 _⟩
theorem gDn_OK {s : RSt} (hb : Bytes (s.getD [])) : (gDn s).1.OK := ⟨gI_I64 _, gI_I64 _, gI_I64 _, gI_I64 _⟩
theorem gCe_OK {s : RSt} (hb : Bytes (s.getD [])) : (gCe s).1.OK := gCm_OK hb
theorem gPm_OK {s : RSt} (hb : Bytes (s.getD [])) : (gPm s).1.OK := ⟨gI_I64 _, gI_I64 _, rNum_lt (gI_suf.bytes (gI_suf.bytes hb)), gI_I64 _, gI_I64 _⟩
theorem gOp_OK {s : RSt} (hb : Bytes (s.getD [])) : (gOp s).1.OK := ⟨gI_I64 _, rHash_HK ((rRow_suf 256).bytes (gI_suf.bytes hb))⟩
theorem gTb_OK {s : RSt} (hb : Bytes (s.getD [])) : (gTb s).1.OK := gI_I64 _
theorem gBa_OK {s : RSt} (hb : Bytes (s.getD [])) : (gBa s).1.OK := ⟨gI_I64 _, rNum_lt (gI_suf.bytes hb)⟩
theorem RrR.bytes {T : TypeId} {R : Nat → Prop} {w : World} {r : Nat} {s : RSt} (h : RrR T R w r s) : Bytes (s.getD []) := by
  obtain ⟨v, h1, -⟩ := h
  exact h1.2.1.1
theorem szv {cs : List Value} {n : Nat} (h : cs.length = n) : some n = some (Value.agg cs.toArray).cells.size := by rw [← h]; rfl
/-! contracts -/
/-- a flat thing is read -/
def GetsF {α : Type} (T : TypeId) (F : FuncId) (cells : α → List Value) (g : RSt → α × RSt) : Prop := ∀ (R : Nat → Prop) (r : Nat) (s : RSt) (w : World), RrR T R w r s → (∀ k, R k → k < w.heap.size) →
  Calls Try.prog F #[.pointer (some ⟨r, 0, none⟩)] w fun e w' => e = .returned (.agg (cells (g s).1).toArray) ∧ RrR T R w' r (g s).2 ∧ Mod R w w'
/-- a thing is read -/
def Gets {α : Type} (A : Rep α) (T : TypeId) (F : FuncId) (g : RSt → α × RSt) : Prop := ∀ (R : Nat → Prop) (r : Nat) (s : RSt) (w : World), RrR T R w r s → (∀ k, R k → k < w.heap.size) → (s.getD []).length ≤ 900000 →
  Calls Try.prog F #[.pointer (some ⟨r, 0, none⟩)] w fun e w' => ∃ cs, e = .returned (.agg cs.toArray) ∧ A.rd (New w w') w' cs (g s).1 ∧ RrR T R w' r (g s).2 ∧ Mod R w w'
/-- a list of things is read -/
def GetsL {α : Type} (A : Rep α) (T : TypeId) (F Fe : FuncId) (g : RSt → α × RSt) : Prop := ∀ (R : Nat → Prop) (r : Nat) (s : RSt) (w : World), RrR T R w r s → (∀ k, R k → k < w.heap.size) → (s.getD []).length ≤ 900000 →
  Calls Try.prog F #[.pointer (some ⟨r, 0, none⟩), .func (.func Fe) #[] #[]] w fun e w' => ∃ v, e = .returned v ∧ RdS A (New w w') w' v (gList g s).1 ∧ RrR T R w' r (gList g s).2 ∧ Mod R w w'
theorem Gets.to {α : Type} {A : Rep α} {T : TypeId} {F : FuncId} {g : RSt → α × RSt} (h : Gets A T F g) {s s' : RSt} {x : α} (hx : (g s).1 = x) (hs : (g s).2 = s') {R : Nat → Prop} {r : Nat} {w : World} (h1 : RrR T R w r s) (h2 : ∀ k, R k → k < w.heap.size) (h3 : (s.getD []).length ≤ 900000) :
    Calls Try.prog F #[.pointer (some ⟨r, 0, none⟩)] w fun e w' => ∃ cs, e = .returned (.agg cs.toArray) ∧ A.rd (New w w') w' cs x ∧ RrR T R w' r s' ∧ Mod R w w' := by
  subst hx hs
  exact h R r s w h1 h2 h3
theorem GetsF.to {α : Type} {cells : α → List Value} {T : TypeId} {F : FuncId} {g : RSt → α × RSt} (h : GetsF T F cells g) {A : Rep α} (hA : ∀ (R : Nat → Prop) (w : World) (s : RSt), Bytes (s.getD []) → A.rd R w (cells (g s).1) (g s).1) : Gets A T F g := by
  intro R r s w h1 h2 h3
  exact (h R r s w h1 h2).mono fun e w' ⟨he, h4, h5⟩ => ⟨_, he, hA _ _ s h1.bytes, h4, h5⟩
section
variable {R : Nat → Prop} {r : Nat} {s : RSt} {w : World}
theorem cI_Q (h : RrR 125 R w r s) : Calls Try.prog 115 #[.pointer (some ⟨r, 0, none⟩), .int .i64 1099511627776] w fun e w' => e = .returned (.int .i64 (gI s).1) ∧ RrR 125 R w' r (gI s).2 ∧ Mod R w w' := RInt_R h (by decide)
theorem cRow_Q (h : RrR 125 R w r s) : Calls Try.prog 149 #[.pointer (some ⟨r, 0, none⟩), .int .i64 256] w fun e w' => ∃ v', e = .returned v' ∧ RdR (New w w') (rRow 256 s).1.length w' v' (rRow 256 s).1 ∧ RrR 125 R w' r (rRow 256 s).2 ∧ Mod R w w' :=
  (RRow_R h (by decide)).mono fun _ _ ⟨v', he, ho, h2, h3⟩ => ⟨v', he, ⟨ho.rd.1, ho.rd.2.1, Nat.le_refl _⟩, h2, h3⟩
end
end Go.Proofs.Ytknpapcfhnhheaa

/- Numbers not too great: gavellaw05's up, niceName, niceSig. -/
set_option maxRecDepth 100000
set_option linter.unusedVariables false
namespace Go.Proofs.Ytknpapcfhnhheaa
open Go Go.RowKit Go.Gv


/-- numbers from 0 on, not too great -/
def upn (n : Int) : Int := within n 1099511627776
theorem upn_range (n : Int) : 0 ≤ upn n ∧ upn n < 1099511627776 := within_range n _ (by decide)
theorem upn_I (n : Int) : I64 (upn n) := by have := upn_range n; unfold I64; omega
def nicSt (x : St) : St := ⟨upn x.rp, upn x.cl, upn x.sq, x.h, x.tm, upn x.sb, upn x.mr⟩
def nicCm (x : Cm) : Cm := { x with cl := upn x.cl, sq := upn x.sq, ln := upn x.ln, sb := upn x.sb, mr := upn x.mr }
def nicCe (x : Ce) : Ce := ⟨nicCm x.c, x.l.map nicSt⟩
def nicPm (x : Pm) : Pm := ⟨upn x.rp, upn x.ep, x.fl, x.l.map nicCe, upn x.sb, upn x.mr⟩
def nicOp (x : Op) : Op := { x with ix := upn x.ix, pl := x.pl.take 256 }
def nicDn (x : Dn) : Dn := ⟨upn x.rp, upn x.ix, upn x.sb, upn x.mr⟩
def nicTb (x : Tb) : Tb := ⟨upn x.ix, x.l.map nicDn⟩
def nicBa (x : Ba) : Ba := ⟨upn x.ep, x.tm, x.ps.map nicPm, x.os.map nicOp, x.ts.map nicTb⟩
theorem nicSt_ok {x : St} (h : x.OK) : (nicSt x).OK := ⟨upn_I _, upn_I _, upn_I _, h.h, h.tm, upn_I _, upn_I _⟩
theorem nicDn_ok (x : Dn) : (nicDn x).OK := ⟨upn_I _, upn_I _, upn_I _, upn_I _⟩
theorem nicCm_ok {x : Cm} (h : x.OK) : (nicCm x).OK := ⟨⟨upn_I _, upn_I _, upn_I _, upn_I _, upn_I _⟩, h.2⟩
set_option maxHeartbeats 1000000 in
theorem up_any (n : Int) (w : World) (h : I64 n) : Calls Try.prog 92 #[.int .i64 n] w fun e w' => e = .returned (.int .i64 (upn n)) ∧ w = w' := by
  have HN := Lib.hid h
  clear h
  go_enter Try.func92, Try.ntmps92
  go_upto_region 1 with (fail)
  have HM0 := hid (Mod.refl (fun _ => False) w)
  go_upto_region 1 with (fail)
  generalize ha0 : Act.mk _ _ = a0
  have oe0 : a0.eval (.tmp 0) = .int .i64 n := by rw [← ha0]; rfl
  have hsz0 : a0.tmps.size = 5 := by rw [← ha0]; rfl
  have HA0 := hid ha0
  clear ha0
  refine wp_region_S 5 hsz0 [3, 4, 2] [0, 1, 2] ?_
  refine QSeq.pure rfl (.int .i64 n) (fun E => ex_move rfl (E.v oe0)) ?_
  refine QSeq.go fun act E => ?_
  refine qc_callF (args := #[.int .i64 n, .int .i64 1099511627776]) rfl (wanted_none rfl) rfl Try.func13 (args2 (E.d 0 0) rfl) (Within_any n 1099511627776 (by decide) (by decide) HN.out _) ?_
  rintro e w2 ⟨rfl, hw2⟩
  obtain rfl : w = w2 := by first | exact hw2 | exact hw2.symm
  refine ⟨_, rfl, ?_⟩
  clear act E
  refine QSeq.pure rfl (.int .i64 (within n 1099511627776)) (fun E => ex_assign rfl (E.d 1 0)) ?_
  refine QSeq.nil (t' := [_, _, _]) rfl ?_
  have ha0 := HA0.out
  subst ha0
  clear HA0 hsz0 oe0
  simp only [putAll, Act.put, List.setIfInBounds_toArray, List.set_cons_zero, List.set_cons_succ]
  go_wp2
  go_ret
  exact ⟨rfl, rfl⟩
set_option maxHeartbeats 1000000 in
theorem niceName_any (a b : Int) (w : World) (ha : I64 a) (hb : I64 b) : Calls Try.prog 100 #[.agg #[.int .i64 a, .int .i64 b]] w fun e w' => e = .returned (.agg #[.int .i64 (upn a), .int .i64 (upn b)]) ∧ Mod (fun _ => False) w w' := by
  have HA := Lib.hid ha
  have HB := Lib.hid hb
  clear ha hb
  go_enter Try.func100, Try.ntmps100
  go_upto_region 1 with (fail)
  obtain ⟨w1, hw1⟩ : ∃ zz, zz = ((w.alloc (.cells #[.int .i64 a, .int .i64 b] 23)).alloc (.cells #[.int .i64 0, .int .i64 0] 23)) := ⟨_, rfl⟩
  change Code.wp _ _ _ _ ((w.alloc (.cells #[.int .i64 a, .int .i64 b] 23)).alloc (.cells #[.int .i64 0, .int .i64 0] 23))
  rw [← hw1]
  have HB1 := hid (show Cs w1 (w.heap.size) #[.int .i64 a, .int .i64 b] 23 by rw [hw1]; exact (Cs.new _ _ _).alloc _)
  have HB2 := hid (show Cs w1 (w.heap.size + 1) #[.int .i64 0, .int .i64 0] 23 by rw [hw1]; exact Cs_newN _ _ _ (by simp))
  have hm : Mod (fun _ => False) w w1 := by rw [hw1]; exact ((Mod.refl _ _).alloc _).alloc _
  have HM0 := hid (show Mod (fun _ => False) w w1 from hm.mono (fun _ _ h => h.elim))
  have hs1 : w1.heap.size = w.heap.size + 2 := by rw [hw1]; simp
  clear hw1 hm
  go_upto_region 1 with (fail)
  generalize ha0 : Act.mk _ _ = a0
  have oe1 : a0.eval (.tmp 1) = .pointer (some ⟨w.heap.size, 0, none⟩) := by rw [← ha0]; rfl
  have oe2 : a0.eval (.tmp 2) = .pointer (some ⟨w.heap.size + 1, 0, none⟩) := by rw [← ha0]; rfl
  have hsz0 : a0.tmps.size = 10 := by rw [← ha0]; rfl
  have HA0 := hid ha0
  clear ha0
  refine wp_region_Q1 10 hsz0 [3, 4, 5, 6, 7, 8, 9, 17] (fun k => (k = w.heap.size + 1)) (fun k j => (k = 0 ∧ ((j = w.heap.size + 1)))) (fun _ _ h => h.2) [qi (.pointer (some ⟨w.heap.size, 0, none⟩)), qi (.int .i64 a), qi (.int .i64 (upn a)), qi (.pointer (some ⟨w.heap.size, 1, none⟩)), qi (.int .i64 b), qi (.int .i64 (upn b)), qi (.agg #[.int .i64 (upn a), .int .i64 (upn b)]), qv 0] ⟨qi_stable, qi_stable, qi_stable, qi_stable, qi_stable, qi_stable, qi_stable, qv_stable, trivial⟩ [7] ⟨?_, ?_, ?_, ?_, ?_, ?_, ?_, ?_, trivial⟩ ?_
  · exact stq (fun E => ex_field rfl Try.underlying23 rfl (by kernel_rfl) (E.v oe1))
  · exact stq (fun E => ex_load1 rfl Try.underlying3 rfl (E.d 0) (Cs.lit1 (HB1.out.mod E.m (by intro h2; omega)) rfl))
  · refine stepq_env rfl rfl rfl fun _ _ _ _ _ _ _ _ _ hd _ _ => ?_
    have h1 := hd ⟨1, .data⟩ (by simp) rfl _ rfl
    refine qe_callF (args := #[.int .i64 a]) rfl (wanted_none rfl) rfl Try.func92 (args1 h1) (up_any a _ HA.out) ?_
    rintro e w2 ⟨rfl, rfl⟩
    exact ⟨_, rfl, QE.refl, rfl⟩
  · exact stq (fun E => ex_field rfl Try.underlying23 rfl (by kernel_rfl) (E.v oe1))
  · exact stq (fun E => ex_load1 rfl Try.underlying3 rfl (E.d 3) (Cs.lit1 (HB1.out.mod E.m (by intro h2; omega)) rfl))
  · refine stepq_env rfl rfl rfl fun _ _ _ _ _ _ _ _ _ hd _ _ => ?_
    have h4 := hd ⟨4, .data⟩ (by simp) rfl _ rfl
    refine qe_callF (args := #[.int .i64 b]) rfl (wanted_none rfl) rfl Try.func92 (args1 h4) (up_any b _ HB.out) ?_
    rintro e w2 ⟨rfl, rfl⟩
    exact ⟨_, rfl, QE.refl, rfl⟩
  · refine stepq_env rfl rfl rfl fun _ _ act _ _ _ _ _ _ hd _ _ => ?_
    have h2 := hd ⟨2, .data⟩ (by simp) rfl _ rfl
    have h5 := hd ⟨5, .data⟩ (by simp) rfl _ rfl
    refine qe_run rfl (wanted_none rfl) (ex_build rfl (z := [.int .i64 0, .int .i64 0]) (places := [(0, 1), (1, 1)]) (by kernel_rfl) (parts := [(0, .int .i64 (upn a)), (1, .int .i64 (upn b))]) (by simp only [List.map_toArray, List.map_cons, List.map_nil, show act.eval (.tmp 5) = _ from h2, show act.eval (.tmp 8) = _ from h5]; try rfl) (r := [.int .i64 (upn a), .int .i64 (upn b)]) (by rfl)) QE.refl ?_
    rfl
  · exact stepq_chain rfl
  intro u1_0 hr
  have zu1_0 := hr.size
  have Cx1 := hid (hr.new (S := (fun k => (k = w.heap.size + 1))))
  have Hx2 := hid (HB2.out.mod hr (by intro h2; omega))
  clear HB2
  clear hr
  refine QChain.go fun Z act E => ?_
  refine qc_store rfl (wanted_none rfl) rfl Hx2.out (off := 0) (vs := [.int .i64 (upn a), .int .i64 (upn b)]) (by kernel_rfl) (by intro u hu; simp at hu; rcases hu with rfl | rfl <;> rfl) (by show 2 ≤ 2; decide) (E.v oe2) (by rw [show act.eval ((.tmp 9)) = _ from (E.d 6)]; rfl) ?_
  intro u1_1a qc0 hm
  have qB2 : Cs u1_1a (w.heap.size + 1) #[.int .i64 (upn a), .int .i64 (upn b)] 23 := by rw [show lay _ 0 _ = #[.int .i64 (upn a), .int .i64 (upn b)] from lay_whole #[.int .i64 0, .int .i64 0] [.int .i64 (upn a), .int .i64 (upn b)] rfl] at qc0; exact qc0
  clear qc0
  have zu1_1a := hm.size
  refine ⟨hm.mono (by intro k hk h; omega), (fun _ => rfl), ?_⟩
  intro u1_1 hr
  have zu1_1 := hr.size
  have Hx3 := hid (qB2.mod hr (by intro h2; omega))
  have Cx4 := hid (Cx1.out.goM hm hr (fun _ _ h => h))
  clear Cx1 hm hr Z act E qB2 Hx2
  refine QChain.nil fun vs hl hzz hrows hne => ?_
  obtain ⟨Z, hYZ, hZb, hV⟩ := hzz
  have f2 := fvi hV hl 2
  have f5 := fvi hV hl 5
  rw [show vs = [gw vs 0, gw vs 1, gw vs 2, gw vs 3, gw vs 4, gw vs 5, gw vs 6, gw vs 7] from (gw_eta hl).trans rfl]
  have ha0 := HA0.out
  subst ha0
  clear HA0 hV hYZ hZb hsz0 hrows hne oe1 oe2
  simp only [putAll, Act.put, List.setIfInBounds_toArray, List.set_cons_zero, List.set_cons_succ, List.set_nil, f2, f5]
  clear hl f2 f5
  go_wp2
  exact bodyPost_ret (results_cellA rfl _ _ (w.heap.size + 1) ([.int .i64 (upn a), .int .i64 (upn b)]) rfl (fun k u hu => by rw [Cs.cell Hx3.out]; simpa using hu) Try.underlying23 rfl (by kernel_rfl)) rfl ⟨rfl, (HM0.out.trans Cx4.out (by intro k h1 h2; omega))⟩
set_option maxHeartbeats 1000000 in
theorem niceSig_any (a b : Int) (w : World) (ha : I64 a) (hb : I64 b) : Calls Try.prog 94 #[.agg #[.int .i64 a, .int .i64 b]] w fun e w' => e = .returned (.agg #[.int .i64 (upn a), .int .i64 (upn b)]) ∧ Mod (fun _ => False) w w' := by
  have HA := Lib.hid ha
  have HB := Lib.hid hb
  clear ha hb
  go_enter Try.func94, Try.ntmps94
  go_upto_region 1 with (fail)
  obtain ⟨w1, hw1⟩ : ∃ zz, zz = ((w.alloc (.cells #[.int .i64 a, .int .i64 b] 28)).alloc (.cells #[.int .i64 0, .int .i64 0] 28)) := ⟨_, rfl⟩
  change Code.wp _ _ _ _ ((w.alloc (.cells #[.int .i64 a, .int .i64 b] 28)).alloc (.cells #[.int .i64 0, .int .i64 0] 28))
  rw [← hw1]
  have HB1 := hid (show Cs w1 (w.heap.size) #[.int .i64 a, .int .i64 b] 28 by rw [hw1]; exact (Cs.new _ _ _).alloc _)
  have HB2 := hid (show Cs w1 (w.heap.size + 1) #[.int .i64 0, .int .i64 0] 28 by rw [hw1]; exact Cs_newN _ _ _ (by simp))
  have hm : Mod (fun _ => False) w w1 := by rw [hw1]; exact ((Mod.refl _ _).alloc _).alloc _
  have HM0 := hid (show Mod (fun _ => False) w w1 from hm.mono (fun _ _ h => h.elim))
  have hs1 : w1.heap.size = w.heap.size + 2 := by rw [hw1]; simp
  clear hw1 hm
  go_upto_region 1 with (fail)
  generalize ha0 : Act.mk _ _ = a0
  have oe1 : a0.eval (.tmp 1) = .pointer (some ⟨w.heap.size, 0, none⟩) := by rw [← ha0]; rfl
  have oe2 : a0.eval (.tmp 2) = .pointer (some ⟨w.heap.size + 1, 0, none⟩) := by rw [← ha0]; rfl
  have hsz0 : a0.tmps.size = 10 := by rw [← ha0]; rfl
  have HA0 := hid ha0
  clear ha0
  refine wp_region_Q1 10 hsz0 [3, 4, 5, 6, 7, 8, 9, 17] (fun k => (k = w.heap.size + 1)) (fun k j => (k = 0 ∧ ((j = w.heap.size + 1)))) (fun _ _ h => h.2) [qi (.pointer (some ⟨w.heap.size, 0, none⟩)), qi (.int .i64 a), qi (.int .i64 (upn a)), qi (.pointer (some ⟨w.heap.size, 1, none⟩)), qi (.int .i64 b), qi (.int .i64 (upn b)), qi (.agg #[.int .i64 (upn a), .int .i64 (upn b)]), qv 0] ⟨qi_stable, qi_stable, qi_stable, qi_stable, qi_stable, qi_stable, qi_stable, qv_stable, trivial⟩ [7] ⟨?_, ?_, ?_, ?_, ?_, ?_, ?_, ?_, trivial⟩ ?_
  · exact stq (fun E => ex_field rfl Try.underlying28 rfl (by kernel_rfl) (E.v oe1))
  · exact stq (fun E => ex_load1 rfl Try.underlying3 rfl (E.d 0) (Cs.lit1 (HB1.out.mod E.m (by intro h2; omega)) rfl))
  · refine stepq_env rfl rfl rfl fun _ _ _ _ _ _ _ _ _ hd _ _ => ?_
    have h1 := hd ⟨1, .data⟩ (by simp) rfl _ rfl
    refine qe_callF (args := #[.int .i64 a]) rfl (wanted_none rfl) rfl Try.func92 (args1 h1) (up_any a _ HA.out) ?_
    rintro e w2 ⟨rfl, rfl⟩
    exact ⟨_, rfl, QE.refl, rfl⟩
  · exact stq (fun E => ex_field rfl Try.underlying28 rfl (by kernel_rfl) (E.v oe1))
  · exact stq (fun E => ex_load1 rfl Try.underlying3 rfl (E.d 3) (Cs.lit1 (HB1.out.mod E.m (by intro h2; omega)) rfl))
  · refine stepq_env rfl rfl rfl fun _ _ _ _ _ _ _ _ _ hd _ _ => ?_
    have h4 := hd ⟨4, .data⟩ (by simp) rfl _ rfl
    refine qe_callF (args := #[.int .i64 b]) rfl (wanted_none rfl) rfl Try.func92 (args1 h4) (up_any b _ HB.out) ?_
    rintro e w2 ⟨rfl, rfl⟩
    exact ⟨_, rfl, QE.refl, rfl⟩
  · refine stepq_env rfl rfl rfl fun _ _ act _ _ _ _ _ _ hd _ _ => ?_
    have h2 := hd ⟨2, .data⟩ (by simp) rfl _ rfl
    have h5 := hd ⟨5, .data⟩ (by simp) rfl _ rfl
    refine qe_run rfl (wanted_none rfl) (ex_build rfl (z := [.int .i64 0, .int .i64 0]) (places := [(0, 1), (1, 1)]) (by kernel_rfl) (parts := [(0, .int .i64 (upn a)), (1, .int .i64 (upn b))]) (by simp only [List.map_toArray, List.map_cons, List.map_nil, show act.eval (.tmp 5) = _ from h2, show act.eval (.tmp 8) = _ from h5]; try rfl) (r := [.int .i64 (upn a), .int .i64 (upn b)]) (by rfl)) QE.refl ?_
    rfl
  · exact stepq_chain rfl
  intro u1_0 hr
  have zu1_0 := hr.size
  have Cx1 := hid (hr.new (S := (fun k => (k = w.heap.size + 1))))
  have Hx2 := hid (HB2.out.mod hr (by intro h2; omega))
  clear HB2
  clear hr
  refine QChain.go fun Z act E => ?_
  refine qc_store rfl (wanted_none rfl) rfl Hx2.out (off := 0) (vs := [.int .i64 (upn a), .int .i64 (upn b)]) (by kernel_rfl) (by intro u hu; simp at hu; rcases hu with rfl | rfl <;> rfl) (by show 2 ≤ 2; decide) (E.v oe2) (by rw [show act.eval ((.tmp 9)) = _ from (E.d 6)]; rfl) ?_
  intro u1_1a qc0 hm
  have qB2 : Cs u1_1a (w.heap.size + 1) #[.int .i64 (upn a), .int .i64 (upn b)] 28 := by rw [show lay _ 0 _ = #[.int .i64 (upn a), .int .i64 (upn b)] from lay_whole #[.int .i64 0, .int .i64 0] [.int .i64 (upn a), .int .i64 (upn b)] rfl] at qc0; exact qc0
  clear qc0
  have zu1_1a := hm.size
  refine ⟨hm.mono (by intro k hk h; omega), (fun _ => rfl), ?_⟩
  intro u1_1 hr
  have zu1_1 := hr.size
  have Hx3 := hid (qB2.mod hr (by intro h2; omega))
  have Cx4 := hid (Cx1.out.goM hm hr (fun _ _ h => h))
  clear Cx1 hm hr Z act E qB2 Hx2
  refine QChain.nil fun vs hl hzz hrows hne => ?_
  obtain ⟨Z, hYZ, hZb, hV⟩ := hzz
  have f2 := fvi hV hl 2
  have f5 := fvi hV hl 5
  rw [show vs = [gw vs 0, gw vs 1, gw vs 2, gw vs 3, gw vs 4, gw vs 5, gw vs 6, gw vs 7] from (gw_eta hl).trans rfl]
  have ha0 := HA0.out
  subst ha0
  clear HA0 hV hYZ hZb hsz0 hrows hne oe1 oe2
  simp only [putAll, Act.put, List.setIfInBounds_toArray, List.set_cons_zero, List.set_cons_succ, List.set_nil, f2, f5]
  clear hl f2 f5
  go_wp2
  exact bodyPost_ret (results_cellA rfl _ _ (w.heap.size + 1) ([.int .i64 (upn a), .int .i64 (upn b)]) rfl (fun k u hu => by rw [Cs.cell Hx3.out]; simpa using hu) Try.underlying28 rfl (by kernel_rfl)) rfl ⟨rfl, (HM0.out.trans Cx4.out (by intro k h1 h2; omega))⟩
end Go.Proofs.Ytknpapcfhnhheaa

/- Certificates not too great: gavellaw05's nice. -/
set_option maxRecDepth 100000
set_option linter.unusedVariables false
namespace Go.Proofs.Ytknpapcfhnhheaa
open Go Go.RowKit Go.Gv


/-- a function that gives a thing anew, its numbers not too great; P: what is asked of the thing -/
def NicR {α : Type} (A : Rep α) (P : α → Prop) (F : FuncId) (f : α → α) : Prop := ∀ (R2 : Nat → Prop) (x : α) (cs : List Value) (w : World), A.rd R2 w cs x → (∀ k, R2 k → k < w.heap.size) → P x →
  Calls Try.prog F #[.agg cs.toArray] w fun e w' => ∃ cs', e = .returned (.agg cs'.toArray) ∧ A.rd (fun k => R2 k ∨ New w w' k) w' cs' (f x) ∧ Mod (fun _ => False) w w'
def fewCe (x : Ce) : Prop := x.l.length ≤ 1000
def fewPm (x : Pm) : Prop := x.l.length ≤ 1000 ∧ ∀ y ∈ x.l, fewCe y
theorem lay_nm (c : Cm) (v : Value) (a b : Int) : lay (c.cells ++ [v]).toArray 0 [.int .i64 a, .int .i64 b] = (Cm.cells { c with cl := a, sq := b } ++ [v]).toArray := by simp [lay, Cm.cells]
theorem lay_ln (c : Cm) (v : Value) (a : Int) (hl : c.h.length = 32) : lay (c.cells ++ [v]).toArray 34 [.int .i64 a] = (Cm.cells { c with ln := a } ++ [v]).toArray := by
  simp [lay, Cm.cells, List.take_append, List.drop_append, hl]
theorem lay_sg (c : Cm) (v : Value) (a b : Int) (hl : c.h.length = 32) : lay (c.cells ++ [v]).toArray 35 [.int .i64 a, .int .i64 b] = (Cm.cells { c with sb := a, mr := b } ++ [v]).toArray := by
  simp [lay, Cm.cells, List.take_append, List.drop_append, hl, (List.take_of_length_le (by simp [hl]) : (c.h.map bv).take 33 = c.h.map bv), (List.drop_of_length_le (by simp [hl]) : (c.h.map bv).drop 35 = [])]
theorem lay_srp (x : St) (a : Int) : lay x.cells.toArray 0 [.int .i64 a] = (St.cells { x with rp := a }).toArray := by simp [lay]
theorem lay_snm (x : St) (a b : Int) : lay x.cells.toArray 1 [.int .i64 a, .int .i64 b] = (St.cells { x with cl := a, sq := b }).toArray := by simp [lay]
theorem lay_ssg (x : St) (a b : Int) (hl : x.h.length = 32) : lay x.cells.toArray 36 [.int .i64 a, .int .i64 b] = (St.cells { x with sb := a, mr := b }).toArray := by
  simp [lay, List.take_append, List.drop_append, hl, (List.take_of_length_le (by simp [hl]) : (x.h.map bv).take 33 = x.h.map bv), (List.drop_of_length_le (by simp [hl]) : (x.h.map bv).drop 35 = [])]
theorem upto_getE {α : Type} {f : α → α} {k : Nat} {l : List α} {y : α} (h : l[k]? = some y) : (upto f k l)[k]? = some y := by
  obtain ⟨h1, h2⟩ := List.getElem?_eq_some_iff.1 h
  rw [upto_get h1, h2]
theorem upto_setE {α : Type} {f : α → α} {k : Nat} {l : List α} {y : α} (h : l[k]? = some y) : (upto f k l).set k (f y) = upto f (k + 1) l := by
  obtain ⟨h1, h2⟩ := List.getElem?_eq_some_iff.1 h
  rw [← h2, upto_set h1]

theorem cm_nm {w : World} {g : Nat} {c : Cm} {v : Value} {T : TypeId} (h : Cs w g (c.cells ++ [v]).toArray T) : ∀ j u, ([.int .i64 c.cl, .int .i64 c.sq] : List Value)[j]? = some u → w.cell? ⟨g, 0 + j, none⟩ = some u := Cs.litA h rfl
theorem cm_ln {w : World} {g : Nat} {c : Cm} {v : Value} {T : TypeId} (h : Cs w g (c.cells ++ [v]).toArray T) (hl : c.h.length = 32) : w.cell? ⟨g, 34, none⟩ = some (.int .i64 c.ln) := Cs.lit1 h (by simp [Cm.cells, List.getElem?_append, hl])
theorem cm_sg {w : World} {g : Nat} {c : Cm} {v : Value} {T : TypeId} (h : Cs w g (c.cells ++ [v]).toArray T) (hl : c.h.length = 32) : ∀ j u, ([.int .i64 c.sb, .int .i64 c.mr] : List Value)[j]? = some u → w.cell? ⟨g, 35 + j, none⟩ = some u := Cs.litA h (by simp [Cm.cells, List.drop_append, hl, (List.drop_of_length_le (by simp [hl]) : (c.h.map bv).drop 33 = [])])
theorem cm_l {w : World} {g : Nat} {c : Cm} {v : Value} {T : TypeId} (h : Cs w g (c.cells ++ [v]).toArray T) (hl : c.h.length = 32) : w.cell? ⟨g, 37, none⟩ = some v := Cs.lit1 h (by simp [Cm.cells, List.getElem?_append, hl])
set_option maxHeartbeats 4000000 in
theorem nice_c : NicR CeR fewCe 53 nicCe := by
  intro R2 x cs w hx hB2 hP
  obtain ⟨v_l, rfl, hok, hs0⟩ := hx
  obtain ⟨ao, cap, rfl⟩ := hs0.shape
  have HS := Lib.hid hs0
  have HBT := Lib.hid hB2
  have HOK := Lib.hid hok
  have HP := Lib.hid hP
  clear hs0 hB2 hok hP
  go_enter Try.func53, Try.ntmps53
  go_upto_region 1 with (fail)
  obtain ⟨w1, hw1⟩ : ∃ zz, zz = ((w.alloc (.cells (x.cells (.slice ao x.l.length cap) : List Value).toArray 52)).alloc (.cells #[.int .i64 0, .int .i64 0, .int .u8 0, .int .u8 0, .int .u8 0, .int .u8 0, .int .u8 0, .int .u8 0, .int .u8 0, .int .u8 0, .int .u8 0, .int .u8 0, .int .u8 0, .int .u8 0, .int .u8 0, .int .u8 0, .int .u8 0, .int .u8 0, .int .u8 0, .int .u8 0, .int .u8 0, .int .u8 0, .int .u8 0, .int .u8 0, .int .u8 0, .int .u8 0, .int .u8 0, .int .u8 0, .int .u8 0, .int .u8 0, .int .u8 0, .int .u8 0, .int .u8 0, .int .u8 0, .int .i64 0, .int .i64 0, .int .i64 0, .slice none 0 0] 52)) := ⟨_, rfl⟩
  change Code.wp _ _ _ _ ((w.alloc (.cells (x.cells (.slice ao x.l.length cap) : List Value).toArray 52)).alloc (.cells #[.int .i64 0, .int .i64 0, .int .u8 0, .int .u8 0, .int .u8 0, .int .u8 0, .int .u8 0, .int .u8 0, .int .u8 0, .int .u8 0, .int .u8 0, .int .u8 0, .int .u8 0, .int .u8 0, .int .u8 0, .int .u8 0, .int .u8 0, .int .u8 0, .int .u8 0, .int .u8 0, .int .u8 0, .int .u8 0, .int .u8 0, .int .u8 0, .int .u8 0, .int .u8 0, .int .u8 0, .int .u8 0, .int .u8 0, .int .u8 0, .int .u8 0, .int .u8 0, .int .u8 0, .int .u8 0, .int .i64 0, .int .i64 0, .int .i64 0, .slice none 0 0] 52))
  rw [← hw1]
  have HB1 := hid (show Cs w1 (w.heap.size) (x.cells (.slice ao x.l.length cap) : List Value).toArray 52 by rw [hw1]; exact (Cs.new _ _ _).alloc _)
  have HB2 := hid (show Cs w1 (w.heap.size + 1) #[.int .i64 0, .int .i64 0, .int .u8 0, .int .u8 0, .int .u8 0, .int .u8 0, .int .u8 0, .int .u8 0, .int .u8 0, .int .u8 0, .int .u8 0, .int .u8 0, .int .u8 0, .int .u8 0, .int .u8 0, .int .u8 0, .int .u8 0, .int .u8 0, .int .u8 0, .int .u8 0, .int .u8 0, .int .u8 0, .int .u8 0, .int .u8 0, .int .u8 0, .int .u8 0, .int .u8 0, .int .u8 0, .int .u8 0, .int .u8 0, .int .u8 0, .int .u8 0, .int .u8 0, .int .u8 0, .int .i64 0, .int .i64 0, .int .i64 0, .slice none 0 0] 52 by rw [hw1]; exact Cs_newN _ _ _ (by simp))
  have hm : Mod (fun _ => False) w w1 := by rw [hw1]; exact ((Mod.refl _ _).alloc _).alloc _
  have HM0 := hid (show Mod (fun _ => False) w w1 from hm.mono (fun _ _ h => h.elim))
  have hs1 : w1.heap.size = w.heap.size + 2 := by rw [hw1]; simp
  have Hx1 := hid (HS.out.mod hm (fun _ _ h => h))
  clear HS
  clear hw1 hm
  go_upto_region 1 with (fail)
  generalize ha0 : Act.mk _ _ = a0
  have oe1 : a0.eval (.tmp 1) = .pointer (some ⟨w.heap.size, 0, none⟩) := by rw [← ha0]; rfl
  have hsz0 : a0.tmps.size = 57 := by rw [← ha0]; rfl
  have HA0 := hid ha0
  clear ha0
  refine wp_region_Q1 57 hsz0 [5, 6, 7, 8, 9, 10, 11, 12, 13, 14, 15, 16, 17, 18, 71, 19, 20, 74, 21, 22, 77] (fun k => (k = w.heap.size)) (fun k j => (k = 0 ∧ ((j = w.heap.size))) ∨ (k = 1 ∧ ((j = w.heap.size))) ∨ (k = 2 ∧ ((j = w.heap.size)))) (by intro k j h; (try dsimp only at h ⊢); omega) [qi (.pointer (some ⟨w.heap.size, 0, none⟩)), qi (.pointer (some ⟨w.heap.size, 0, none⟩)), qi (.agg #[.int .i64 x.c.cl, .int .i64 x.c.sq]), qi (.agg #[.int .i64 (upn x.c.cl), .int .i64 (upn x.c.sq)]), qi (.pointer (some ⟨w.heap.size, 0, none⟩)), qi (.pointer (some ⟨w.heap.size, 34, none⟩)), qi (.int .i64 x.c.ln), qi (.int .i64 (upn x.c.ln)), qi (.pointer (some ⟨w.heap.size, 0, none⟩)), qi (.pointer (some ⟨w.heap.size, 35, none⟩)), qi (.agg #[.int .i64 x.c.sb, .int .i64 x.c.mr]), qi (.agg #[.int .i64 (upn x.c.sb), .int .i64 (upn x.c.mr)]), qi (.pointer (some ⟨w.heap.size, 0, none⟩)), qi (.pointer (some ⟨w.heap.size, 0, none⟩)), qv 0, qi (.pointer (some ⟨w.heap.size, 0, none⟩)), qi (.pointer (some ⟨w.heap.size, 34, none⟩)), qv 1, qi (.pointer (some ⟨w.heap.size, 0, none⟩)), qi (.pointer (some ⟨w.heap.size, 35, none⟩)), qv 2] ⟨qi_stable, qi_stable, qi_stable, qi_stable, qi_stable, qi_stable, qi_stable, qi_stable, qi_stable, qi_stable, qi_stable, qi_stable, qi_stable, qi_stable, qv_stable, qi_stable, qi_stable, qv_stable, qi_stable, qi_stable, qv_stable, trivial⟩ [14, 17, 20] ⟨?_, ?_, ?_, ?_, ?_, ?_, ?_, ?_, ?_, ?_, ?_, ?_, ?_, ?_, ?_, ?_, ?_, ?_, ?_, ?_, ?_, trivial⟩ ?_
  · exact stq (fun E => ex_field rfl Try.underlying52 rfl (by kernel_rfl) (E.v oe1))
  · exact stq (fun E => ex_field rfl Try.underlying49 rfl (by kernel_rfl) (E.d 0))
  · refine stepq_env rfl rfl rfl fun _ _ _ _ _ _ hm0 _ _ hd hub _ => ?_
    have h1 := hd ⟨1, .data⟩ (by simp) rfl _ rfl
    refine qe_run rfl (wanted_none rfl) (ex_loadA rfl Try.underlying23 rfl (off := 0) (cs := [.int .i64 x.c.cl, .int .i64 x.c.sq]) (by kernel_rfl) h1 (cm_nm (HB1.out.mod hm0 (by intro h2; have hu := hub 0 14 rfl (by kernel_rfl); rcases h2 with ⟨h0, kk, hk, h2⟩ | h2 <;> omega)))) QE.refl ?_
    rfl
  · refine stepq_env rfl rfl rfl fun _ _ _ _ _ _ _ _ _ hd _ _ => ?_
    have h2 := hd ⟨2, .data⟩ (by simp) rfl _ rfl
    refine qe_callF (args := #[.agg #[.int .i64 x.c.cl, .int .i64 x.c.sq]]) rfl (wanted_none rfl) rfl Try.func100 (args1 h2) (niceName_any x.c.cl x.c.sq _ HOK.out.1.1 HOK.out.1.2.1) ?_
    rintro e w2 ⟨rfl, hm2⟩
    exact ⟨_, rfl, QE.still hm2, rfl⟩
  · exact stq (fun E => ex_field rfl Try.underlying52 rfl (by kernel_rfl) (E.v oe1))
  · exact stq (fun E => ex_field rfl Try.underlying49 rfl (by kernel_rfl) (E.d 4))
  · refine stepq_env rfl rfl rfl fun _ _ _ _ _ _ hm0 _ _ hd hub _ => ?_
    have h5 := hd ⟨5, .data⟩ (by simp) rfl _ rfl
    refine qe_run rfl (wanted_none rfl) (ex_load1 rfl Try.underlying3 rfl h5 (cm_ln (HB1.out.mod hm0 (by intro h2; have hu := hub 0 14 rfl (by kernel_rfl); rcases h2 with ⟨h0, kk, hk, h2⟩ | h2 <;> omega)) HOK.out.2.1)) QE.refl ?_
    rfl
  · refine stepq_env rfl rfl rfl fun _ _ _ _ _ _ _ _ _ hd _ _ => ?_
    have h6 := hd ⟨6, .data⟩ (by simp) rfl _ rfl
    refine qe_callF (args := #[.int .i64 x.c.ln]) rfl (wanted_none rfl) rfl Try.func92 (args1 h6) (up_any x.c.ln _ HOK.out.1.2.2.1) ?_
    rintro e w2 ⟨rfl, rfl⟩
    exact ⟨_, rfl, QE.refl, rfl⟩
  · exact stq (fun E => ex_field rfl Try.underlying52 rfl (by kernel_rfl) (E.v oe1))
  · exact stq (fun E => ex_field rfl Try.underlying49 rfl (by kernel_rfl) (E.d 8))
  · refine stepq_env rfl rfl rfl fun _ _ _ _ _ _ hm0 _ _ hd hub _ => ?_
    have h9 := hd ⟨9, .data⟩ (by simp) rfl _ rfl
    refine qe_run rfl (wanted_none rfl) (ex_loadA rfl Try.underlying28 rfl (off := 35) (cs := [.int .i64 x.c.sb, .int .i64 x.c.mr]) (by kernel_rfl) h9 (cm_sg (HB1.out.mod hm0 (by intro h2; have hu := hub 0 14 rfl (by kernel_rfl); rcases h2 with ⟨h0, kk, hk, h2⟩ | h2 <;> omega)) HOK.out.2.1)) QE.refl ?_
    rfl
  · refine stepq_env rfl rfl rfl fun _ _ _ _ _ _ _ _ _ hd _ _ => ?_
    have h10 := hd ⟨10, .data⟩ (by simp) rfl _ rfl
    refine qe_callF (args := #[.agg #[.int .i64 x.c.sb, .int .i64 x.c.mr]]) rfl (wanted_none rfl) rfl Try.func94 (args1 h10) (niceSig_any x.c.sb x.c.mr _ HOK.out.1.2.2.2.1 HOK.out.1.2.2.2.2) ?_
    rintro e w2 ⟨rfl, hm2⟩
    exact ⟨_, rfl, QE.still hm2, rfl⟩
  · exact stq (fun E => ex_field rfl Try.underlying52 rfl (by kernel_rfl) (E.v oe1))
  · exact stq (fun E => ex_field rfl Try.underlying49 rfl (by kernel_rfl) (E.d 12))
  · exact stepq_chain rfl
  · exact stq (fun E => ex_field rfl Try.underlying52 rfl (by kernel_rfl) (E.v oe1))
  · exact stq (fun E => ex_field rfl Try.underlying49 rfl (by kernel_rfl) (E.d 15))
  · exact stepq_chain rfl
  · exact stq (fun E => ex_field rfl Try.underlying52 rfl (by kernel_rfl) (E.v oe1))
  · exact stq (fun E => ex_field rfl Try.underlying49 rfl (by kernel_rfl) (E.d 18))
  · exact stepq_chain rfl
  intro u1_0 hr
  have zu1_0 := hr.size
  have Cx2 := hid (hr.new (S := (fun k => (k = w.heap.size))))
  have Hx3 := hid (HB1.out.mod hr (by intro h2; omega))
  clear HB1
  clear hr
  refine QChain.go fun Z act E => ?_
  refine qc_store rfl (wanted_none rfl) rfl Hx3.out (off := 0) (vs := [.int .i64 (upn x.c.cl), .int .i64 (upn x.c.sq)]) (by kernel_rfl) (by intro u hu; simp at hu; rcases hu with rfl | rfl <;> rfl) (by rw [List.size_toArray, List.length_append, Cm.len (by exact HOK.out.2.1)]; simp only [List.length_cons, List.length_nil]; omega) (E.d 13) (by rw [show act.eval ((.tmp 8)) = _ from (E.d 3)]; rfl) ?_
  intro u1_1a qc0 hm
  have qB1 : Cs u1_1a (w.heap.size) ((({ x.c with cl := upn x.c.cl, sq := upn x.c.sq } : Cm)).cells ++ [Value.slice ao x.l.length cap] : List Value).toArray 52 := by rw [show lay _ 0 _ = ((({ x.c with cl := upn x.c.cl, sq := upn x.c.sq } : Cm)).cells ++ [Value.slice ao x.l.length cap] : List Value).toArray from lay_nm x.c _ _ _] at qc0; exact qc0
  clear qc0
  have zu1_1a := hm.size
  refine ⟨hm.mono (by intro k hk h; omega), (fun _ => rfl), ?_⟩
  intro u1_1 hr
  have zu1_1 := hr.size
  have Hx4 := hid (qB1.mod hr (by intro h2; omega))
  have Cx5 := hid (Cx2.out.goM hm hr (fun _ _ h => h))
  clear Cx2 hm hr Z act E qB1 Hx3
  refine QChain.go fun Z act E => ?_
  refine qc_store rfl (wanted_none rfl) rfl Hx4.out (off := 34) (vs := [.int .i64 (upn x.c.ln)]) (by kernel_rfl) (by intro u hu; simp at hu; subst hu; rfl) (by rw [List.size_toArray, List.length_append, Cm.len (by exact HOK.out.2.1)]; simp only [List.length_cons, List.length_nil]; omega) (E.d 16) (by rw [show act.eval ((.tmp 12)) = _ from (E.d 7)]; rfl) ?_
  intro u1_2a qc0 hm
  have qB1 : Cs u1_2a (w.heap.size) ((({ x.c with cl := upn x.c.cl, sq := upn x.c.sq, ln := upn x.c.ln } : Cm)).cells ++ [Value.slice ao x.l.length cap] : List Value).toArray 52 := by rw [show lay _ 34 _ = ((({ x.c with cl := upn x.c.cl, sq := upn x.c.sq, ln := upn x.c.ln } : Cm)).cells ++ [Value.slice ao x.l.length cap] : List Value).toArray from lay_ln ({ x.c with cl := upn x.c.cl, sq := upn x.c.sq } : Cm) _ _ HOK.out.2.1] at qc0; exact qc0
  clear qc0
  have zu1_2a := hm.size
  refine ⟨hm.mono (by intro k hk h; omega), (fun _ => rfl), ?_⟩
  intro u1_2 hr
  have zu1_2 := hr.size
  have Hx6 := hid (qB1.mod hr (by intro h2; omega))
  have Cx7 := hid (Cx5.out.goM hm hr (fun _ _ h => h))
  clear Cx5 hm hr Z act E qB1 Hx4
  refine QChain.go fun Z act E => ?_
  refine qc_store rfl (wanted_none rfl) rfl Hx6.out (off := 35) (vs := [.int .i64 (upn x.c.sb), .int .i64 (upn x.c.mr)]) (by kernel_rfl) (by intro u hu; simp at hu; rcases hu with rfl | rfl <;> rfl) (by rw [List.size_toArray, List.length_append, Cm.len (by exact HOK.out.2.1)]; simp only [List.length_cons, List.length_nil]; omega) (E.d 19) (by rw [show act.eval ((.tmp 16)) = _ from (E.d 11)]; rfl) ?_
  intro u1_3a qc0 hm
  have qB1 : Cs u1_3a (w.heap.size) (((nicCm x.c)).cells ++ [Value.slice ao x.l.length cap] : List Value).toArray 52 := by rw [show lay _ 35 _ = (((nicCm x.c)).cells ++ [Value.slice ao x.l.length cap] : List Value).toArray from lay_sg ({ x.c with cl := upn x.c.cl, sq := upn x.c.sq, ln := upn x.c.ln } : Cm) _ _ _ HOK.out.2.1] at qc0; exact qc0
  clear qc0
  have zu1_3a := hm.size
  refine ⟨hm.mono (by intro k hk h; omega), (fun _ => rfl), ?_⟩
  intro u1_3 hr
  have zu1_3 := hr.size
  have Hx8 := hid (qB1.mod hr (by intro h2; omega))
  have Cx9 := hid (Cx7.out.goM hm hr (fun _ _ h => h))
  clear Cx7 hm hr Z act E qB1 Hx6
  refine QChain.nil fun vs hl hzz hrows hne => ?_
  obtain ⟨Z, hYZ, hZb, hV⟩ := hzz
  have f3 := fvi hV hl 3
  have f7 := fvi hV hl 7
  have f11 := fvi hV hl 11
  rw [show vs = [gw vs 0, gw vs 1, gw vs 2, gw vs 3, gw vs 4, gw vs 5, gw vs 6, gw vs 7, gw vs 8, gw vs 9, gw vs 10, gw vs 11, gw vs 12, gw vs 13, gw vs 14, gw vs 15, gw vs 16, gw vs 17, gw vs 18, gw vs 19, gw vs 20] from (gw_eta hl).trans rfl]
  have ha0 := HA0.out
  subst ha0
  clear HA0 hV hYZ hZb hsz0 hrows hne oe1
  simp only [putAll, Act.put, List.setIfInBounds_toArray, List.set_cons_zero, List.set_cons_succ, List.set_nil, f3, f7, f11]
  clear hl f3 f7 f11
  go_upto_region 2 with (fail)
  generalize ha0 : Act.mk _ _ = a0
  have oe1 : a0.eval (.tmp 1) = .pointer (some ⟨w.heap.size, 0, none⟩) := by rw [← ha0]; rfl
  have hsz0 : a0.tmps.size = 57 := by rw [← ha0]; rfl
  have HA0 := hid ha0
  clear ha0
  refine wp_region_S 57 hsz0 [23, 24, 25, 26, 61] [0, 1, 2, 3, 4] ?_
  refine QSeq.pure rfl (.pointer (some ⟨w.heap.size, 37, none⟩)) (fun E => ex_field rfl Try.underlying52 rfl (by kernel_rfl) (E.v oe1)) ?_
  refine QSeq.pure rfl (.slice ao x.l.length cap) (fun E => ex_load1 rfl Try.underlying50 rfl (E.d 0 0) (cm_l Hx8.out HOK.out.2.1)) ?_
  refine QSeq.go fun act E => ?_
  refine qc_callF (args := #[.slice ao x.l.length cap]) rfl (wanted_none rfl) rfl Try.func101 (args1 (E.d 1 0)) (Copy_St _ _ _ _ (Hx1.out.mod Cx9.out (by intro k h1 h2; have hb := HBT.out k h1; omega)) (by intro k h1; have hb := HBT.out k h1; omega) (Nat.le_trans HP.out (by decide))) ?_
  rintro e u2_2 ⟨v', rfl, qacc, hm⟩
  obtain ⟨ao', cap', rfl⟩ := qacc.shape
  refine ⟨_, rfl, ?_⟩
  have Hx10 := hid (qacc.widen (R' := (fun k => (New u1_3 u2_2 k))) (E' := (fun k => (R2 k))) (fun _ h => h) (fun _ h => h))
  have zu2_2 := hm.size
  have Cx11 := hid (show Mod (fun _ => False) u1_3 u2_2 from hm)
  clear hm
  clear act E qacc
  refine QSeq.pure rfl (.pointer (some ⟨w.heap.size, 37, none⟩)) (fun E => ex_field rfl Try.underlying52 rfl (by kernel_rfl) (E.v oe1)) ?_
  refine QSeq.go fun act E => ?_
  refine qc_store rfl (wanted_none rfl) rfl (Hx8.out.mod Cx11.out (fun h => h)) (off := 37) (vs := [Value.slice ao' x.l.length cap']) (by kernel_rfl) (by intro u hu; simp at hu; subst hu; rfl) (by rw [List.size_toArray, List.length_append, Cm.len (by exact HOK.out.2.1)]; simp only [List.length_cons, List.length_nil]; omega) (E.d 3 0) (by rw [show act.eval ((.tmp 25)) = _ from (E.d 2 1)]; rfl) ?_
  intro u2_4 qc0 hm
  have qB1 : Cs u2_4 (w.heap.size) (((nicCm x.c)).cells ++ [Value.slice ao' x.l.length cap'] : List Value).toArray 52 := by rw [show lay _ 37 _ = (((nicCm x.c)).cells ++ [Value.slice ao' x.l.length cap'] : List Value).toArray from lay_l (nicCm x.c) _ _ HOK.out.2.1] at qc0; exact qc0
  clear qc0
  have Hx12 := hid qB1
  have zu2_4 := hm.size
  have HMu2_4 := hid hm
  have Cx13 := hid (Mod.goS (S' := (fun k => (k = w.heap.size))) Cx11.out hm (fun _ h => h.elim) (by intro k h0 h2; exact h2))
  clear hm Cx11
  clear act E qB1 Hx8
  have Hx14 := hid (Hx10.out.mod HMu2_4.out (by intro k h1 h2; omega) (by intro k h1 h2; have hb := HBT.out k h1; omega))
  clear Hx10 HMu2_4
  refine QSeq.nil (t' := [_, _, _, _, _]) rfl ?_
  have ha0 := HA0.out
  subst ha0
  clear HA0 hsz0 oe1
  simp only [putAll, Act.put, List.setIfInBounds_toArray, List.set_cons_zero, List.set_cons_succ, List.set_nil]
  go_upto_region 3 with (fail)
  generalize ha0 : Act.mk _ _ = a0
  have oe1 : a0.eval (.tmp 1) = .pointer (some ⟨w.heap.size, 0, none⟩) := by rw [← ha0]; rfl
  have hsz0 : a0.tmps.size = 57 := by rw [← ha0]; rfl
  have HA0 := hid ha0
  clear ha0
  refine wp_region_S 57 hsz0 [27, 28, 29, 30] [0, 1, 2, 3] ?_
  refine QSeq.pure rfl (.pointer (some ⟨w.heap.size, 37, none⟩)) (fun E => ex_field rfl Try.underlying52 rfl (by kernel_rfl) (E.v oe1)) ?_
  refine QSeq.pure rfl (.slice ao' x.l.length cap') (fun E => ex_load1 rfl Try.underlying50 rfl (E.d 0 0) (cm_l Hx12.out HOK.out.2.1)) ?_
  refine QSeq.pure rfl (.int .i64 x.l.length) (fun E => ex_lenS rfl (E.d 1 0) Try.underlying50) ?_
  refine QSeq.pure rfl (.int .i64 0) (fun E => ex_move rfl rfl) ?_
  refine QSeq.nil (t' := [_, _, _, _]) rfl ?_
  have ha0 := HA0.out
  subst ha0
  clear HA0 hsz0 oe1
  simp only [putAll, Act.put, List.setIfInBounds_toArray, List.set_cons_zero, List.set_cons_succ]
  go_wp2
  go_loopw [30] (fun ti wr => ∃ k : Nat, ti = .int .i64 (k : Int) ∧ k ≤ x.l.length ∧ u2_4.heap.size ≤ wr.heap.size ∧ OwS StR 30 (fun k => (New u1_3 u2_2 k)) (fun k => (R2 k) ∨ (u2_4.heap.size ≤ k ∧ k < wr.heap.size)) wr (.slice ao' x.l.length cap') (upto nicSt k x.l) ∧ Cs wr (w.heap.size) (((nicCm x.c)).cells ++ [Value.slice ao' x.l.length cap'] : List Value).toArray 52 ∧ Cs wr (w.heap.size + 1) #[.int .i64 0, .int .i64 0, .int .u8 0, .int .u8 0, .int .u8 0, .int .u8 0, .int .u8 0, .int .u8 0, .int .u8 0, .int .u8 0, .int .u8 0, .int .u8 0, .int .u8 0, .int .u8 0, .int .u8 0, .int .u8 0, .int .u8 0, .int .u8 0, .int .u8 0, .int .u8 0, .int .u8 0, .int .u8 0, .int .u8 0, .int .u8 0, .int .u8 0, .int .u8 0, .int .u8 0, .int .u8 0, .int .u8 0, .int .u8 0, .int .u8 0, .int .u8 0, .int .u8 0, .int .u8 0, .int .i64 0, .int .i64 0, .int .i64 0, .slice none 0 0] 52 ∧ Mod (fun _ => False) w wr) (fun ti _ => x.l.length - (intOf ti).toNat)
  case atStart => exact ⟨0, rfl, Nat.zero_le _, Nat.le_refl _, by rw [upto_zero]; exact Hx14.out.widen (fun _ h => h) (by intro k h1; first | omega | exact h1.elim | exact Or.inl h1 | exact Or.inr (h1)), Hx12.out, ((HB2.out.mod Cx9.out (by intro h2; omega)).mod Cx13.out (by intro h2; omega)), ((HM0.out.trans Cx9.out (by intro k h1 h2; omega)).trans Cx13.out (by intro k h1 h2; omega))⟩
  case round =>
    obtain ⟨k1, rfl, hk, hz, ha, hk_0, hk_1, hm⟩ := hrel
    obtain ⟨wl1, rfl⟩ : ∃ x, x = wr := ⟨_, rfl⟩
    have HAL1 := Lib.hid ha
    have HKP1_0 := Lib.hid hk_0
    have HKP1_1 := Lib.hid hk_1
    have HML1 := Lib.hid hm
    clear ha hm hk_0 hk_1 Hx1 Hx12 HB2 HM0 Hx14
    by_cases hlt1 : k1 < x.l.length
    · skip
      go_upto_region 4 with (fail)
      generalize ha0 : Act.mk _ _ = a0
      have oe29 : a0.eval (.tmp 29) = .int .i64 x.l.length := by rw [← ha0]; rfl
      have oe30 : a0.eval (.tmp 30) = .int .i64 ((k1 : Nat) : Int) := by rw [← ha0]; rfl
      have hsz0 : a0.tmps.size = 57 := by rw [← ha0]; rfl
      have HA0 := hid ha0
      clear ha0
      refine wp_region_S 57 hsz0 [31] [0] ?_
      refine QSeq.pure rfl (.bool true) (fun E => ex_binE rfl (E.v oe30) (E.v oe29) (guard_ints _ _ _ _ _ _) (run_lss_i _ _ _ Try.underlying3) (congrArg Value.bool (decide_eq_true (by omega)))) ?_
      refine QSeq.nil (t' := [_]) rfl ?_
      have ha0 := HA0.out
      subst ha0
      clear HA0 hsz0 oe29 oe30
      simp only [putAll, Act.put, List.setIfInBounds_toArray, List.set_cons_zero, List.set_cons_succ]
      obtain ⟨y1, hy1⟩ : ∃ y, x.l[k1]? = some y := ⟨_, List.getElem?_eq_getElem hlt1⟩
      have HY1 := Lib.hid hy1
      clear hy1
      obtain ⟨g1, cs1, cur1, eao, hrg, hrd, hcs, -, -⟩ := HAL1.out.at (upto_getE (f := nicSt) HY1.out)
      subst eao
      obtain ⟨rfl, hok1⟩ := hrd
      have HOK1 := Lib.hid hok1
      clear hok1
      have HAT1 := hid (show CellsAt (fun k => (New u1_3 u2_2 k)) wl1 g1 (0 + k1 * 38) y1.cells from ⟨hrg, hcs⟩)
      clear hrg hcs
      go_upto_region 5 with (fail)
      generalize ha0 : Act.mk _ _ = a0
      have oe30 : a0.eval (.tmp 30) = .int .i64 ((k1 : Nat) : Int) := by rw [← ha0]; rfl
      have hsz0 : a0.tmps.size = 57 := by rw [← ha0]; rfl
      have HA0 := hid ha0
      clear ha0
      refine wp_region_S 57 hsz0 [32, 3] [0, 1] ?_
      refine QSeq.pure rfl (.int .i64 ((k1 : Nat) : Int)) (fun E => ex_move rfl (E.v oe30)) ?_
      refine QSeq.pure rfl (.int .i64 ((k1 : Nat) : Int)) (fun E => ex_assign rfl (E.d 0 0)) ?_
      refine QSeq.nil (t' := [_, _]) rfl ?_
      have ha0 := HA0.out
      subst ha0
      clear HA0 hsz0 oe30
      simp only [putAll, Act.put, List.setIfInBounds_toArray, List.set_cons_zero, List.set_cons_succ]
      go_upto_region 6 with (fail)
      generalize ha0 : Act.mk _ _ = a0
      have oe1 : a0.eval (.tmp 1) = .pointer (some ⟨w.heap.size, 0, none⟩) := by rw [← ha0]; rfl
      have oe3 : a0.eval (.tmp 3) = .int .i64 ((k1 : Nat) : Int) := by rw [← ha0]; rfl
      have hsz0 : a0.tmps.size = 57 := by rw [← ha0]; rfl
      have HA0 := hid ha0
      clear ha0
      refine wp_region_S 57 hsz0 [33, 34, 35, 36, 37, 4, 63] [0, 1, 2, 3, 4, 5, 6] ?_
      refine QSeq.pure rfl (.pointer (some ⟨w.heap.size, 37, none⟩)) (fun E => ex_field rfl Try.underlying52 rfl (by kernel_rfl) (E.v oe1)) ?_
      refine QSeq.pure rfl (.slice (some ⟨g1, 0, none⟩) x.l.length cap') (fun E => ex_load1 rfl Try.underlying50 rfl (E.d 0 0) (cm_l HKP1_0.out HOK.out.2.1)) ?_
      refine QSeq.pure rfl (.int .i64 ((k1 : Nat) : Int)) (fun E => ex_move rfl (E.v oe3)) ?_
      refine QSeq.pure rfl (.pointer (some ⟨g1, 0 + k1 * 38, none⟩)) (fun E => ex_idxS (i := k1) (s := 38) rfl Try.underlying50 (by kernel_rfl) (E.d 1 1) (E.d 2 0) (by omega)) ?_
      refine QSeq.pure rfl (.agg y1.cells.toArray) (fun E => ex_loadA rfl Try.underlying30 rfl (off := 0 + k1 * 38) (cs := y1.cells) (by rw [St.len HOK1.out]; kernel_rfl) (E.d 3 0) (fun j u hu => (HAT1.out).2 j u hu)) ?_
      refine QSeq.go fun act E => ?_
      refine qc_alloc rfl (wanted_none rfl) rfl (z := [.int .i64 0, .int .i64 0, .int .i64 0, .int .u8 0, .int .u8 0, .int .u8 0, .int .u8 0, .int .u8 0, .int .u8 0, .int .u8 0, .int .u8 0, .int .u8 0, .int .u8 0, .int .u8 0, .int .u8 0, .int .u8 0, .int .u8 0, .int .u8 0, .int .u8 0, .int .u8 0, .int .u8 0, .int .u8 0, .int .u8 0, .int .u8 0, .int .u8 0, .int .u8 0, .int .u8 0, .int .u8 0, .int .u8 0, .int .u8 0, .int .u8 0, .int .u8 0, .int .u8 0, .int .u8 0, .int .u8 0, .int .u64 0, .int .i64 0, .int .i64 0]) (by kernel_rfl) ?_
      intro u6_5 qB4 hm
      have zl6_5 := qB4.lt
      have Hx15 := hid qB4
      have zu6_5 := hm.size
      have Cx16 := hid (show Mod (fun _ => False) wl1 u6_5 from hm)
      clear hm
      clear act E qB4
      refine QSeq.go fun act E => ?_
      refine qc_store rfl (wanted_none rfl) rfl Hx15.out (off := 0) (vs := y1.cells) (by rw [St.len HOK1.out]; kernel_rfl) (St.one _) (by rw [St.len HOK1.out]; decide) (E.d 5 0) (by rw [show act.eval ((.tmp 37)) = _ from (E.d 4 1)]; rfl) ?_
      intro u6_6 qc0 hm
      have qB4 : Cs u6_6 (wl1.heap.size) (y1.cells : List Value).toArray 30 := by rw [show lay _ 0 _ = (y1.cells : List Value).toArray from lay_whole _ _ (by rw [St.len HOK1.out]; rfl)] at qc0; exact qc0
      clear qc0
      have Hx17 := hid qB4
      have zu6_6 := hm.size
      have HMu6_6 := hid hm
      have Cx18 := hid (Mod.goS (S' := (fun _ => False)) Cx16.out hm (fun _ h => h) (by intro k h0 h2; omega))
      clear hm Cx16
      clear act E qB4 Hx15
      clear HMu6_6
      refine QSeq.nil (t' := [_, _, _, _, _, _, _]) rfl ?_
      have ha0 := HA0.out
      subst ha0
      clear HA0 hsz0 oe1 oe3
      simp only [putAll, Act.put, List.setIfInBounds_toArray, List.set_cons_zero, List.set_cons_succ, List.set_nil]
      clear HAT1
      go_upto_region 7 with (fail)
      generalize ha0 : Act.mk _ _ = a0
      have oe4 : a0.eval (.tmp 4) = .pointer (some ⟨wl1.heap.size, 0, none⟩) := by rw [← ha0]; rfl
      have hsz0 : a0.tmps.size = 57 := by rw [← ha0]; rfl
      have HA0 := hid ha0
      clear ha0
      refine wp_region_Q1 57 hsz0 [38, 39, 40, 41, 42, 43, 44, 45, 46, 47, 67, 48, 69, 49, 71] (fun k => (k = wl1.heap.size)) (fun k j => (k = 0 ∧ ((j = wl1.heap.size))) ∨ (k = 1 ∧ ((j = wl1.heap.size))) ∨ (k = 2 ∧ ((j = wl1.heap.size)))) (by intro k j h; (try dsimp only at h ⊢); omega) [qi (.pointer (some ⟨wl1.heap.size, 0, none⟩)), qi (.int .i64 y1.rp), qi (.int .i64 (upn y1.rp)), qi (.pointer (some ⟨wl1.heap.size, 1, none⟩)), qi (.agg #[.int .i64 y1.cl, .int .i64 y1.sq]), qi (.agg #[.int .i64 (upn y1.cl), .int .i64 (upn y1.sq)]), qi (.pointer (some ⟨wl1.heap.size, 36, none⟩)), qi (.agg #[.int .i64 y1.sb, .int .i64 y1.mr]), qi (.agg #[.int .i64 (upn y1.sb), .int .i64 (upn y1.mr)]), qi (.pointer (some ⟨wl1.heap.size, 0, none⟩)), qv 0, qi (.pointer (some ⟨wl1.heap.size, 1, none⟩)), qv 1, qi (.pointer (some ⟨wl1.heap.size, 36, none⟩)), qv 2] ⟨qi_stable, qi_stable, qi_stable, qi_stable, qi_stable, qi_stable, qi_stable, qi_stable, qi_stable, qi_stable, qv_stable, qi_stable, qv_stable, qi_stable, qv_stable, trivial⟩ [10, 12, 14] ⟨?_, ?_, ?_, ?_, ?_, ?_, ?_, ?_, ?_, ?_, ?_, ?_, ?_, ?_, ?_, trivial⟩ ?_
      · exact stq (fun E => ex_field rfl Try.underlying30 rfl (by kernel_rfl) (E.v oe4))
      · refine stepq_env rfl rfl rfl fun _ _ _ _ _ _ hm0 _ _ hd hub _ => ?_
        have h0 := hd ⟨0, .data⟩ (by simp) rfl _ rfl
        refine qe_run rfl (wanted_none rfl) (ex_load1 rfl Try.underlying3 rfl h0 (Cs.pre1 (Hx17.out.mod hm0 (by intro h2; have hu := hub 0 10 rfl (by kernel_rfl); rcases h2 with ⟨h0, kk, hk, h2⟩ | h2 <;> omega)) rfl)) QE.refl ?_
        rfl
      · refine stepq_env rfl rfl rfl fun _ _ _ _ _ _ _ _ _ hd _ _ => ?_
        have h1 := hd ⟨1, .data⟩ (by simp) rfl _ rfl
        refine qe_callF (args := #[.int .i64 y1.rp]) rfl (wanted_none rfl) rfl Try.func92 (args1 h1) (up_any y1.rp _ HOK1.out.rp) ?_
        rintro e w2 ⟨rfl, rfl⟩
        exact ⟨_, rfl, QE.refl, rfl⟩
      · exact stq (fun E => ex_field rfl Try.underlying30 rfl (by kernel_rfl) (E.v oe4))
      · refine stepq_env rfl rfl rfl fun _ _ _ _ _ _ hm0 _ _ hd hub _ => ?_
        have h3 := hd ⟨3, .data⟩ (by simp) rfl _ rfl
        refine qe_run rfl (wanted_none rfl) (ex_loadA rfl Try.underlying23 rfl (off := 1) (cs := [.int .i64 y1.cl, .int .i64 y1.sq]) (by kernel_rfl) h3 (Cs.preA (Hx17.out.mod hm0 (by intro h2; have hu := hub 0 10 rfl (by kernel_rfl); rcases h2 with ⟨h0, kk, hk, h2⟩ | h2 <;> omega)) rfl)) QE.refl ?_
        rfl
      · refine stepq_env rfl rfl rfl fun _ _ _ _ _ _ _ _ _ hd _ _ => ?_
        have h4 := hd ⟨4, .data⟩ (by simp) rfl _ rfl
        refine qe_callF (args := #[.agg #[.int .i64 y1.cl, .int .i64 y1.sq]]) rfl (wanted_none rfl) rfl Try.func100 (args1 h4) (niceName_any y1.cl y1.sq _ HOK1.out.cl HOK1.out.sq) ?_
        rintro e w2 ⟨rfl, hm2⟩
        exact ⟨_, rfl, QE.still hm2, rfl⟩
      · exact stq (fun E => ex_field rfl Try.underlying30 rfl (by kernel_rfl) (E.v oe4))
      · refine stepq_env rfl rfl rfl fun _ _ _ _ _ _ hm0 _ _ hd hub _ => ?_
        have h6 := hd ⟨6, .data⟩ (by simp) rfl _ rfl
        refine qe_run rfl (wanted_none rfl) (ex_loadA rfl Try.underlying28 rfl (off := 36) (cs := [.int .i64 y1.sb, .int .i64 y1.mr]) (by kernel_rfl) h6 (Cs.postA (m := 32) (k := 1) (Hx17.out.mod hm0 (by intro h2; have hu := hub 0 10 rfl (by kernel_rfl); rcases h2 with ⟨h0, kk, hk, h2⟩ | h2 <;> omega)) (by rw [List.length_map]; exact HOK1.out.h.1) rfl rfl)) QE.refl ?_
        rfl
      · refine stepq_env rfl rfl rfl fun _ _ _ _ _ _ _ _ _ hd _ _ => ?_
        have h7 := hd ⟨7, .data⟩ (by simp) rfl _ rfl
        refine qe_callF (args := #[.agg #[.int .i64 y1.sb, .int .i64 y1.mr]]) rfl (wanted_none rfl) rfl Try.func94 (args1 h7) (niceSig_any y1.sb y1.mr _ HOK1.out.sb HOK1.out.mr) ?_
        rintro e w2 ⟨rfl, hm2⟩
        exact ⟨_, rfl, QE.still hm2, rfl⟩
      · exact stq (fun E => ex_field rfl Try.underlying30 rfl (by kernel_rfl) (E.v oe4))
      · exact stepq_chain rfl
      · exact stq (fun E => ex_field rfl Try.underlying30 rfl (by kernel_rfl) (E.v oe4))
      · exact stepq_chain rfl
      · exact stq (fun E => ex_field rfl Try.underlying30 rfl (by kernel_rfl) (E.v oe4))
      · exact stepq_chain rfl
      intro u7_0 hr
      have zu7_0 := hr.size
      have Cx19 := hid (hr.new (S := (fun k => (k = wl1.heap.size))))
      have Hx20 := hid (Hx17.out.mod hr (by intro h2; omega))
      clear Hx17
      clear hr
      refine QChain.go fun Z act E => ?_
      refine qc_store rfl (wanted_none rfl) rfl Hx20.out (off := 0) (vs := [.int .i64 (upn y1.rp)]) (by kernel_rfl) (by intro u hu; simp at hu; subst hu; rfl) (by rw [List.size_toArray]; simp [HOK1.out.h.1]) (E.d 9) (by rw [show act.eval ((.tmp 40)) = _ from (E.d 2)]; rfl) ?_
      intro u7_1a qc0 hm
      have qB4 : Cs u7_1a (wl1.heap.size) (({ y1 with rp := upn y1.rp } : St).cells : List Value).toArray 30 := by rw [show lay _ 0 _ = (({ y1 with rp := upn y1.rp } : St).cells : List Value).toArray from lay_srp y1 _] at qc0; exact qc0
      clear qc0
      have zu7_1a := hm.size
      refine ⟨hm.mono (by intro k hk h; omega), (fun _ => rfl), ?_⟩
      intro u7_1 hr
      have zu7_1 := hr.size
      have Hx21 := hid (qB4.mod hr (by intro h2; omega))
      have Cx22 := hid (Cx19.out.goM hm hr (fun _ _ h => h))
      clear Cx19 hm hr Z act E qB4 Hx20
      refine QChain.go fun Z act E => ?_
      refine qc_store rfl (wanted_none rfl) rfl Hx21.out (off := 1) (vs := [.int .i64 (upn y1.cl), .int .i64 (upn y1.sq)]) (by kernel_rfl) (by intro u hu; simp at hu; rcases hu with rfl | rfl <;> rfl) (by rw [List.size_toArray]; simp [HOK1.out.h.1]) (E.d 11) (by rw [show act.eval ((.tmp 43)) = _ from (E.d 5)]; rfl) ?_
      intro u7_2a qc0 hm
      have qB4 : Cs u7_2a (wl1.heap.size) (({ y1 with rp := upn y1.rp, cl := upn y1.cl, sq := upn y1.sq } : St).cells : List Value).toArray 30 := by rw [show lay _ 1 _ = (({ y1 with rp := upn y1.rp, cl := upn y1.cl, sq := upn y1.sq } : St).cells : List Value).toArray from lay_snm ({ y1 with rp := upn y1.rp } : St) _ _] at qc0; exact qc0
      clear qc0
      have zu7_2a := hm.size
      refine ⟨hm.mono (by intro k hk h; omega), (fun _ => rfl), ?_⟩
      intro u7_2 hr
      have zu7_2 := hr.size
      have Hx23 := hid (qB4.mod hr (by intro h2; omega))
      have Cx24 := hid (Cx22.out.goM hm hr (fun _ _ h => h))
      clear Cx22 hm hr Z act E qB4 Hx21
      refine QChain.go fun Z act E => ?_
      refine qc_store rfl (wanted_none rfl) rfl Hx23.out (off := 36) (vs := [.int .i64 (upn y1.sb), .int .i64 (upn y1.mr)]) (by kernel_rfl) (by intro u hu; simp at hu; rcases hu with rfl | rfl <;> rfl) (by rw [List.size_toArray]; simp [HOK1.out.h.1]) (E.d 13) (by rw [show act.eval ((.tmp 46)) = _ from (E.d 8)]; rfl) ?_
      intro u7_3a qc0 hm
      have qB4 : Cs u7_3a (wl1.heap.size) ((nicSt y1).cells : List Value).toArray 30 := by rw [show lay _ 36 _ = ((nicSt y1).cells : List Value).toArray from lay_ssg ({ y1 with rp := upn y1.rp, cl := upn y1.cl, sq := upn y1.sq } : St) _ _ HOK1.out.h.1] at qc0; exact qc0
      clear qc0
      have zu7_3a := hm.size
      refine ⟨hm.mono (by intro k hk h; omega), (fun _ => rfl), ?_⟩
      intro u7_3 hr
      have zu7_3 := hr.size
      have Hx25 := hid (qB4.mod hr (by intro h2; omega))
      have Cx26 := hid (Cx24.out.goM hm hr (fun _ _ h => h))
      clear Cx24 hm hr Z act E qB4 Hx23
      refine QChain.nil fun vs hl hzz hrows hne => ?_
      obtain ⟨Z, hYZ, hZb, hV⟩ := hzz
      have f2 := fvi hV hl 2
      have f5 := fvi hV hl 5
      have f8 := fvi hV hl 8
      rw [show vs = [gw vs 0, gw vs 1, gw vs 2, gw vs 3, gw vs 4, gw vs 5, gw vs 6, gw vs 7, gw vs 8, gw vs 9, gw vs 10, gw vs 11, gw vs 12, gw vs 13, gw vs 14] from (gw_eta hl).trans rfl]
      have ha0 := HA0.out
      subst ha0
      clear HA0 hV hYZ hZb hsz0 hrows hne oe4
      simp only [putAll, Act.put, List.setIfInBounds_toArray, List.set_cons_zero, List.set_cons_succ, List.set_nil, f2, f5, f8]
      clear hl f2 f5 f8
      go_upto_region 8 with (fail)
      generalize ha0 : Act.mk _ _ = a0
      have oe1 : a0.eval (.tmp 1) = .pointer (some ⟨w.heap.size, 0, none⟩) := by rw [← ha0]; rfl
      have oe3 : a0.eval (.tmp 3) = .int .i64 ((k1 : Nat) : Int) := by rw [← ha0]; rfl
      have oe4 : a0.eval (.tmp 4) = .pointer (some ⟨wl1.heap.size, 0, none⟩) := by rw [← ha0]; rfl
      have hsz0 : a0.tmps.size = 57 := by rw [← ha0]; rfl
      have HA0 := hid ha0
      clear ha0
      refine wp_region_S 57 hsz0 [50, 51, 52, 53, 54, 62] [0, 1, 2, 3, 4, 5] ?_
      refine QSeq.pure rfl (.pointer (some ⟨w.heap.size, 37, none⟩)) (fun E => ex_field rfl Try.underlying52 rfl (by kernel_rfl) (E.v oe1)) ?_
      refine QSeq.pure rfl (.slice (some ⟨g1, 0, none⟩) x.l.length cap') (fun E => ex_load1 rfl Try.underlying50 rfl (E.d 0 0) (cm_l ((HKP1_0.out.mod Cx18.out (fun h => h)).mod Cx26.out (by intro h2; omega)) HOK.out.2.1)) ?_
      refine QSeq.pure rfl (.int .i64 ((k1 : Nat) : Int)) (fun E => ex_move rfl (E.v oe3)) ?_
      refine QSeq.pure rfl (.agg (nicSt y1).cells.toArray) (fun E => ex_loadA rfl Try.underlying30 rfl (off := 0) (cs := (nicSt y1).cells) (by rw [St.len (nicSt_ok HOK1.out)]; kernel_rfl) (E.v oe4) (Cs.whole Hx25.out)) ?_
      refine QSeq.pure rfl (.pointer (some ⟨g1, 0 + k1 * 38, none⟩)) (fun E => ex_idxS (i := k1) (s := 38) rfl Try.underlying50 (by kernel_rfl) (E.d 1 2) (E.d 2 1) (by omega)) ?_
      refine QSeq.go fun act E => ?_
      refine qc_putS (A := StR) (off := 0 + k1 * 38) (cs := (nicSt y1).cells) (z := (nicSt y1)) rfl (wanted_none rfl) rfl ((HAL1.out.mod Cx18.out (fun _ _ h => h) (fun _ _ h => h)).mod Cx26.out (by intro k h1 h2; omega) (by intro k h1 h2; rcases h1 with h1 | h1 <;> first | omega | (have hb := HBT.out k h1; omega))) (by rw [upto_len]; exact hlt1) (Nat.zero_add _) (show StR.rd (fun _ => False) _ _ _ from ⟨rfl, nicSt_ok HOK1.out⟩) (fun _ h => h.elim) (by intro k h1 h2; (try dsimp only at h1 h2); rcases h1 with h1 | h1 <;> first | omega | (have := HBT.out k h1; omega)) (by kernel_rfl) (E.d 4 0) (by rw [show act.eval (.tmp 53) = _ from (E.d 3 1)]; rfl) ?_
      intro u8_5 q0 hm
      have qacc := q0
      rw [upto_setE HY1.out] at qacc
      clear q0
      have Hx27 := hid qacc
      have zu8_5 := hm.size
      have Cx28 := hid (show Mod (fun k => (New u1_3 u2_2 k)) u7_3 u8_5 from hm)
      clear hm
      clear act E qacc HAL1
      refine QSeq.nil (t' := [_, _, _, _, _, _]) rfl ?_
      have ha0 := HA0.out
      subst ha0
      clear HA0 hsz0 oe1 oe3 oe4
      simp only [putAll, Act.put, List.setIfInBounds_toArray, List.set_cons_zero, List.set_cons_succ, List.set_nil]
      clear Hx25
      go_upto_region 9 with (fail)
      generalize ha0 : Act.mk _ _ = a0
      have oe30 : a0.eval (.tmp 30) = .int .i64 ((k1 : Nat) : Int) := by rw [← ha0]; rfl
      have hsz0 : a0.tmps.size = 57 := by rw [← ha0]; rfl
      have HA0 := hid ha0
      clear ha0
      refine wp_region_S 57 hsz0 [55, 30] [0, 1] ?_
      refine QSeq.pure rfl (.int .i64 (((k1 : Nat) : Int) + 1)) (fun E => ex_binE rfl (E.y 1 oe30) rfl (guard_ints _ _ _ _ _ _) (run_add_i _ _ Try.underlying3) (congrArg (Value.int .i64) (IntWalk.i64_in _ (by have h9 := (show x.l.length ≤ 1000 from HP.out); omega)))) ?_
      refine QSeq.pure rfl (.int .i64 (((k1 : Nat) : Int) + 1)) (fun E => ex_move rfl (E.d 0 0)) ?_
      refine QSeq.nil (t' := [_, _]) rfl ?_
      have ha0 := HA0.out
      subst ha0
      clear HA0 hsz0 oe30
      simp only [putAll, Act.put, List.setIfInBounds_toArray, List.set_cons_zero, List.set_cons_succ]
      go_wp2
      go_roundw
      case rel => exact ⟨k1 + 1, by go_num, by omega, by omega, (Hx27.out.widen (fun _ h => h) (by intro k h1; rcases h1 with h1 | h1 <;> first | omega | exact h1.elim | exact Or.inl h1 | exact Or.inr (h1))), (((HKP1_0.out.mod Cx18.out (fun h => h)).mod Cx26.out (by intro h2; omega)).mod Cx28.out (by intro h2; omega)), (((HKP1_1.out.mod Cx18.out (fun h => h)).mod Cx26.out (by intro h2; omega)).mod Cx28.out (by intro h2; omega)), (((HML1.out.trans Cx18.out (fun _ _ h => h.elim)).trans Cx26.out (by intro k h1 h2; omega)).trans Cx28.out (by intro k h1 h2; omega))⟩
      case measure => simp [intOf]; omega
    · skip
      go_upto_region 4 with (fail)
      generalize ha0 : Act.mk _ _ = a0
      have oe29 : a0.eval (.tmp 29) = .int .i64 x.l.length := by rw [← ha0]; rfl
      have oe30 : a0.eval (.tmp 30) = .int .i64 ((k1 : Nat) : Int) := by rw [← ha0]; rfl
      have hsz0 : a0.tmps.size = 57 := by rw [← ha0]; rfl
      have HA0 := hid ha0
      clear ha0
      refine wp_region_S 57 hsz0 [31] [0] ?_
      refine QSeq.pure rfl (.bool false) (fun E => ex_binE rfl (E.v oe30) (E.v oe29) (guard_ints _ _ _ _ _ _) (run_lss_i _ _ _ Try.underlying3) (congrArg Value.bool (decide_eq_false (by omega)))) ?_
      refine QSeq.nil (t' := [_]) rfl ?_
      have ha0 := HA0.out
      subst ha0
      clear HA0 hsz0 oe29 oe30
      simp only [putAll, Act.put, List.setIfInBounds_toArray, List.set_cons_zero, List.set_cons_succ]
      have hq := HAL1.out
      rw [upto_all (by omega)] at hq
      have HQ1 := Lib.hid hq
      clear hq
      go_upto_region 10 with (fail)
      generalize ha0 : Act.mk _ _ = a0
      have oe1 : a0.eval (.tmp 1) = .pointer (some ⟨w.heap.size, 0, none⟩) := by rw [← ha0]; rfl
      have oe2 : a0.eval (.tmp 2) = .pointer (some ⟨w.heap.size + 1, 0, none⟩) := by rw [← ha0]; rfl
      have hsz0 : a0.tmps.size = 57 := by rw [← ha0]; rfl
      have HA0 := hid ha0
      clear ha0
      refine wp_region_S 57 hsz0 [56, 58] [0, 1] ?_
      refine QSeq.pure rfl (.agg (((nicCm x.c)).cells ++ [Value.slice ao' x.l.length cap']).toArray) (fun E => ex_loadA rfl Try.underlying52 rfl (off := 0) (cs := ((nicCm x.c)).cells ++ [Value.slice ao' x.l.length cap']) (by rw [List.length_append, Cm.len (by exact HOK.out.2.1)]; exact size_ce) (E.v oe1) (Cs.whole HKP1_0.out)) ?_
      refine QSeq.go fun act E => ?_
      refine qc_store rfl (wanted_none rfl) rfl HKP1_1.out (off := 0) (vs := (((nicCm x.c)).cells ++ [Value.slice ao' x.l.length cap'])) (by rw [List.length_append, Cm.len (by exact HOK.out.2.1)]; exact size_ce) (one_ce _ _ rfl) (by rw [Nat.zero_add, List.length_append, Cm.len (by exact HOK.out.2.1)]; exact (by decide : 37 + 1 ≤ 38)) (E.v oe2) (by rw [show act.eval ((.tmp 56)) = _ from (E.d 0 0)]; rfl) ?_
      intro u10_1 qc0 hm
      have qB2 : Cs u10_1 (w.heap.size + 1) ((((nicCm x.c)).cells ++ [Value.slice ao' x.l.length cap']) : List Value).toArray 52 := by rw [show lay _ 0 _ = ((((nicCm x.c)).cells ++ [Value.slice ao' x.l.length cap']) : List Value).toArray from lay_whole _ _ (by rw [List.length_append, Cm.len (by exact HOK.out.2.1)]; rfl)] at qc0; exact qc0
      clear qc0
      have Hx29 := hid qB2
      have zu10_1 := hm.size
      have Cx30 := hid (show Mod (fun k => (k = w.heap.size + 1)) wl1 u10_1 from hm)
      clear hm
      clear act E qB2 HKP1_1
      refine QSeq.nil (t' := [_, _]) rfl ?_
      have ha0 := HA0.out
      subst ha0
      clear HA0 hsz0 oe1 oe2
      simp only [putAll, Act.put, List.setIfInBounds_toArray, List.set_cons_zero, List.set_cons_succ, List.set_nil]
      go_wp2
      have hq := (HQ1.out.mod Cx30.out (by intro k h1 h2; omega) (by intro k h1 h2; rcases h1 with h1 | h1 <;> first | omega | (have hb := HBT.out k h1; omega)))
      refine bodyPost_ret (results_cellA rfl _ _ (w.heap.size + 1) (((nicCm x.c)).cells ++ [Value.slice ao' x.l.length cap']) rfl (fun k u hu => by rw [Hx29.out.cell]; simpa using hu) Try.underlying52 rfl (by rw [List.length_append, Cm.len (by exact HOK.out.2.1)]; exact size_ce)) rfl ⟨_, rfl, ⟨_, rfl, nicCm_ok HOK.out, ?_⟩, (HML1.out.trans Cx30.out (by intro k h1 h2; omega))⟩
      have hq2 : RdS StR _ _ _ (x.l.map nicSt) := hq.rd
      refine RdS.widen (show RdS StR _ _ _ (nicCe x).l from hq2) ?_
      intro k h
      (try dsimp only at h ⊢)
      rcases h with h | h | h
      · right; omega
      · exact Or.inl h
      · right; omega
end Go.Proofs.Ytknpapcfhnhheaa

/- Promises not too great: gavellaw05's nicePromise. -/
set_option maxRecDepth 100000
set_option linter.unusedVariables false
namespace Go.Proofs.Ytknpapcfhnhheaa
open Go Go.RowKit Go.Gv

set_option maxHeartbeats 4000000 in
theorem nicePromise_c : NicR PmR fewPm 54 nicPm := by
  intro R2 x cs w hx hB2 hP
  obtain ⟨v_l, rfl, hok, hs0⟩ := hx
  obtain ⟨ao, cap, rfl⟩ := hs0.shape
  have HS := Lib.hid hs0
  have HBT := Lib.hid hB2
  have HOK := Lib.hid hok
  have HP := Lib.hid hP
  clear hs0 hB2 hok hP
  go_enter Try.func54, Try.ntmps54
  go_upto_region 1 with (fail)
  obtain ⟨w1, hw1⟩ : ∃ zz, zz = ((w.alloc (.cells (x.cells (.slice ao x.l.length cap) : List Value).toArray 55)).alloc (.cells #[.int .i64 0, .int .i64 0, .int .u64 0, .slice none 0 0, .int .i64 0, .int .i64 0] 55)) := ⟨_, rfl⟩
  change Code.wp _ _ _ _ ((w.alloc (.cells (x.cells (.slice ao x.l.length cap) : List Value).toArray 55)).alloc (.cells #[.int .i64 0, .int .i64 0, .int .u64 0, .slice none 0 0, .int .i64 0, .int .i64 0] 55))
  rw [← hw1]
  have HB1 := hid (show Cs w1 (w.heap.size) (x.cells (.slice ao x.l.length cap) : List Value).toArray 55 by rw [hw1]; exact (Cs.new _ _ _).alloc _)
  have HB2 := hid (show Cs w1 (w.heap.size + 1) #[.int .i64 0, .int .i64 0, .int .u64 0, .slice none 0 0, .int .i64 0, .int .i64 0] 55 by rw [hw1]; exact Cs_newN _ _ _ (by simp))
  have hm : Mod (fun _ => False) w w1 := by rw [hw1]; exact ((Mod.refl _ _).alloc _).alloc _
  have HM0 := hid (show Mod (fun _ => False) w w1 from hm.mono (fun _ _ h => h.elim))
  have hs1 : w1.heap.size = w.heap.size + 2 := by rw [hw1]; simp
  have Hx1 := hid (HS.out.mod hm (fun _ _ h => h))
  clear HS
  clear hw1 hm
  go_upto_region 1 with (fail)
  generalize ha0 : Act.mk _ _ = a0
  have oe1 : a0.eval (.tmp 1) = .pointer (some ⟨w.heap.size, 0, none⟩) := by rw [← ha0]; rfl
  have hsz0 : a0.tmps.size = 38 := by rw [← ha0]; rfl
  have HA0 := hid ha0
  clear ha0
  refine wp_region_Q1 38 hsz0 [4, 5, 6, 7, 8, 9, 10, 11, 12, 13, 48, 14, 50, 15, 52] (fun k => (k = w.heap.size)) (fun k j => (k = 0 ∧ ((j = w.heap.size))) ∨ (k = 1 ∧ ((j = w.heap.size))) ∨ (k = 2 ∧ ((j = w.heap.size)))) (by intro k j h; (try dsimp only at h ⊢); omega) [qi (.pointer (some ⟨w.heap.size, 0, none⟩)), qi (.int .i64 x.rp), qi (.int .i64 (upn x.rp)), qi (.pointer (some ⟨w.heap.size, 1, none⟩)), qi (.int .i64 x.ep), qi (.int .i64 (upn x.ep)), qi (.pointer (some ⟨w.heap.size, 4, none⟩)), qi (.agg #[.int .i64 x.sb, .int .i64 x.mr]), qi (.agg #[.int .i64 (upn x.sb), .int .i64 (upn x.mr)]), qi (.pointer (some ⟨w.heap.size, 0, none⟩)), qv 0, qi (.pointer (some ⟨w.heap.size, 1, none⟩)), qv 1, qi (.pointer (some ⟨w.heap.size, 4, none⟩)), qv 2] ⟨qi_stable, qi_stable, qi_stable, qi_stable, qi_stable, qi_stable, qi_stable, qi_stable, qi_stable, qi_stable, qv_stable, qi_stable, qv_stable, qi_stable, qv_stable, trivial⟩ [10, 12, 14] ⟨?_, ?_, ?_, ?_, ?_, ?_, ?_, ?_, ?_, ?_, ?_, ?_, ?_, ?_, ?_, trivial⟩ ?_
  · exact stq (fun E => ex_field rfl Try.underlying55 rfl (by kernel_rfl) (E.v oe1))
  · refine stepq_env rfl rfl rfl fun _ _ _ _ _ _ hm0 _ _ hd hub _ => ?_
    have h0 := hd ⟨0, .data⟩ (by simp) rfl _ rfl
    refine qe_run rfl (wanted_none rfl) (ex_load1 rfl Try.underlying3 rfl h0 (Cs.lit1 (HB1.out.mod hm0 (by intro h2; have hu := hub 0 10 rfl (by kernel_rfl); rcases h2 with ⟨h0, kk, hk, h2⟩ | h2 <;> omega)) rfl)) QE.refl ?_
    rfl
  · refine stepq_env rfl rfl rfl fun _ _ _ _ _ _ _ _ _ hd _ _ => ?_
    have h1 := hd ⟨1, .data⟩ (by simp) rfl _ rfl
    refine qe_callF (args := #[.int .i64 x.rp]) rfl (wanted_none rfl) rfl Try.func92 (args1 h1) (up_any x.rp _ HOK.out.1) ?_
    rintro e w2 ⟨rfl, rfl⟩
    exact ⟨_, rfl, QE.refl, rfl⟩
  · exact stq (fun E => ex_field rfl Try.underlying55 rfl (by kernel_rfl) (E.v oe1))
  · refine stepq_env rfl rfl rfl fun _ _ _ _ _ _ hm0 _ _ hd hub _ => ?_
    have h3 := hd ⟨3, .data⟩ (by simp) rfl _ rfl
    refine qe_run rfl (wanted_none rfl) (ex_load1 rfl Try.underlying3 rfl h3 (Cs.lit1 (HB1.out.mod hm0 (by intro h2; have hu := hub 0 10 rfl (by kernel_rfl); rcases h2 with ⟨h0, kk, hk, h2⟩ | h2 <;> omega)) rfl)) QE.refl ?_
    rfl
  · refine stepq_env rfl rfl rfl fun _ _ _ _ _ _ _ _ _ hd _ _ => ?_
    have h4 := hd ⟨4, .data⟩ (by simp) rfl _ rfl
    refine qe_callF (args := #[.int .i64 x.ep]) rfl (wanted_none rfl) rfl Try.func92 (args1 h4) (up_any x.ep _ HOK.out.2.1) ?_
    rintro e w2 ⟨rfl, rfl⟩
    exact ⟨_, rfl, QE.refl, rfl⟩
  · exact stq (fun E => ex_field rfl Try.underlying55 rfl (by kernel_rfl) (E.v oe1))
  · refine stepq_env rfl rfl rfl fun _ _ _ _ _ _ hm0 _ _ hd hub _ => ?_
    have h6 := hd ⟨6, .data⟩ (by simp) rfl _ rfl
    refine qe_run rfl (wanted_none rfl) (ex_loadA rfl Try.underlying28 rfl (off := 4) (cs := [.int .i64 x.sb, .int .i64 x.mr]) (by kernel_rfl) h6 (Cs.litA (HB1.out.mod hm0 (by intro h2; have hu := hub 0 10 rfl (by kernel_rfl); rcases h2 with ⟨h0, kk, hk, h2⟩ | h2 <;> omega)) rfl)) QE.refl ?_
    rfl
  · refine stepq_env rfl rfl rfl fun _ _ _ _ _ _ _ _ _ hd _ _ => ?_
    have h7 := hd ⟨7, .data⟩ (by simp) rfl _ rfl
    refine qe_callF (args := #[.agg #[.int .i64 x.sb, .int .i64 x.mr]]) rfl (wanted_none rfl) rfl Try.func94 (args1 h7) (niceSig_any x.sb x.mr _ HOK.out.2.2.2.1 HOK.out.2.2.2.2) ?_
    rintro e w2 ⟨rfl, hm2⟩
    exact ⟨_, rfl, QE.still hm2, rfl⟩
  · exact stq (fun E => ex_field rfl Try.underlying55 rfl (by kernel_rfl) (E.v oe1))
  · exact stepq_chain rfl
  · exact stq (fun E => ex_field rfl Try.underlying55 rfl (by kernel_rfl) (E.v oe1))
  · exact stepq_chain rfl
  · exact stq (fun E => ex_field rfl Try.underlying55 rfl (by kernel_rfl) (E.v oe1))
  · exact stepq_chain rfl
  intro u1_0 hr
  have zu1_0 := hr.size
  have Cx2 := hid (hr.new (S := (fun k => (k = w.heap.size))))
  have Hx3 := hid (HB1.out.mod hr (by intro h2; omega))
  clear HB1
  clear hr
  refine QChain.go fun Z act E => ?_
  refine qc_store rfl (wanted_none rfl) rfl Hx3.out (off := 0) (vs := [.int .i64 (upn x.rp)]) (by kernel_rfl) (by intro u hu; simp at hu; subst hu; rfl) (by show 0 + 1 ≤ 6; decide) (E.d 9) (by rw [show act.eval ((.tmp 6)) = _ from (E.d 2)]; rfl) ?_
  intro u1_1a qc0 hm
  have qB1 : Cs u1_1a (w.heap.size) #[.int .i64 (upn x.rp), .int .i64 x.ep, .int .u64 (x.fl : Nat), Value.slice ao x.l.length cap, .int .i64 x.sb, .int .i64 x.mr] 55 := by rw [show lay _ 0 _ = #[.int .i64 (upn x.rp), .int .i64 x.ep, .int .u64 (x.fl : Nat), Value.slice ao x.l.length cap, .int .i64 x.sb, .int .i64 x.mr] from rfl] at qc0; exact qc0
  clear qc0
  have zu1_1a := hm.size
  refine ⟨hm.mono (by intro k hk h; omega), (fun _ => rfl), ?_⟩
  intro u1_1 hr
  have zu1_1 := hr.size
  have Hx4 := hid (qB1.mod hr (by intro h2; omega))
  have Cx5 := hid (Cx2.out.goM hm hr (fun _ _ h => h))
  clear Cx2 hm hr Z act E qB1 Hx3
  refine QChain.go fun Z act E => ?_
  refine qc_store rfl (wanted_none rfl) rfl Hx4.out (off := 1) (vs := [.int .i64 (upn x.ep)]) (by kernel_rfl) (by intro u hu; simp at hu; subst hu; rfl) (by show 1 + 1 ≤ 6; decide) (E.d 11) (by rw [show act.eval ((.tmp 9)) = _ from (E.d 5)]; rfl) ?_
  intro u1_2a qc0 hm
  have qB1 : Cs u1_2a (w.heap.size) #[.int .i64 (upn x.rp), .int .i64 (upn x.ep), .int .u64 (x.fl : Nat), Value.slice ao x.l.length cap, .int .i64 x.sb, .int .i64 x.mr] 55 := by rw [show lay _ 1 _ = #[.int .i64 (upn x.rp), .int .i64 (upn x.ep), .int .u64 (x.fl : Nat), Value.slice ao x.l.length cap, .int .i64 x.sb, .int .i64 x.mr] from rfl] at qc0; exact qc0
  clear qc0
  have zu1_2a := hm.size
  refine ⟨hm.mono (by intro k hk h; omega), (fun _ => rfl), ?_⟩
  intro u1_2 hr
  have zu1_2 := hr.size
  have Hx6 := hid (qB1.mod hr (by intro h2; omega))
  have Cx7 := hid (Cx5.out.goM hm hr (fun _ _ h => h))
  clear Cx5 hm hr Z act E qB1 Hx4
  refine QChain.go fun Z act E => ?_
  refine qc_store rfl (wanted_none rfl) rfl Hx6.out (off := 4) (vs := [.int .i64 (upn x.sb), .int .i64 (upn x.mr)]) (by kernel_rfl) (by intro u hu; simp at hu; rcases hu with rfl | rfl <;> rfl) (by show 4 + 2 ≤ 6; decide) (E.d 13) (by rw [show act.eval ((.tmp 12)) = _ from (E.d 8)]; rfl) ?_
  intro u1_3a qc0 hm
  have qB1 : Cs u1_3a (w.heap.size) #[.int .i64 (upn x.rp), .int .i64 (upn x.ep), .int .u64 (x.fl : Nat), Value.slice ao x.l.length cap, .int .i64 (upn x.sb), .int .i64 (upn x.mr)] 55 := by rw [show lay _ 4 _ = #[.int .i64 (upn x.rp), .int .i64 (upn x.ep), .int .u64 (x.fl : Nat), Value.slice ao x.l.length cap, .int .i64 (upn x.sb), .int .i64 (upn x.mr)] from rfl] at qc0; exact qc0
  clear qc0
  have zu1_3a := hm.size
  refine ⟨hm.mono (by intro k hk h; omega), (fun _ => rfl), ?_⟩
  intro u1_3 hr
  have zu1_3 := hr.size
  have Hx8 := hid (qB1.mod hr (by intro h2; omega))
  have Cx9 := hid (Cx7.out.goM hm hr (fun _ _ h => h))
  clear Cx7 hm hr Z act E qB1 Hx6
  refine QChain.nil fun vs hl hzz hrows hne => ?_
  obtain ⟨Z, hYZ, hZb, hV⟩ := hzz
  have f2 := fvi hV hl 2
  have f5 := fvi hV hl 5
  have f8 := fvi hV hl 8
  rw [show vs = [gw vs 0, gw vs 1, gw vs 2, gw vs 3, gw vs 4, gw vs 5, gw vs 6, gw vs 7, gw vs 8, gw vs 9, gw vs 10, gw vs 11, gw vs 12, gw vs 13, gw vs 14] from (gw_eta hl).trans rfl]
  have ha0 := HA0.out
  subst ha0
  clear HA0 hV hYZ hZb hsz0 hrows hne oe1
  simp only [putAll, Act.put, List.setIfInBounds_toArray, List.set_cons_zero, List.set_cons_succ, List.set_nil, f2, f5, f8]
  clear hl f2 f5 f8
  go_upto_region 2 with (fail)
  generalize ha0 : Act.mk _ _ = a0
  have oe1 : a0.eval (.tmp 1) = .pointer (some ⟨w.heap.size, 0, none⟩) := by rw [← ha0]; rfl
  have hsz0 : a0.tmps.size = 38 := by rw [← ha0]; rfl
  have HA0 := hid ha0
  clear ha0
  refine wp_region_S 38 hsz0 [16, 17, 18, 19, 42] [0, 1, 2, 3, 4] ?_
  refine QSeq.pure rfl (.pointer (some ⟨w.heap.size, 3, none⟩)) (fun E => ex_field rfl Try.underlying55 rfl (by kernel_rfl) (E.v oe1)) ?_
  refine QSeq.pure rfl (.slice ao x.l.length cap) (fun E => ex_load1 rfl Try.underlying53 rfl (E.d 0 0) (Cs.lit1 Hx8.out rfl)) ?_
  refine QSeq.go fun act E => ?_
  refine qc_appS (A := CeR) (e := 52) rfl (wanted_none rfl) rfl (.agg #[.int .i64 0, .int .i64 0, .int .u8 0, .int .u8 0, .int .u8 0, .int .u8 0, .int .u8 0, .int .u8 0, .int .u8 0, .int .u8 0, .int .u8 0, .int .u8 0, .int .u8 0, .int .u8 0, .int .u8 0, .int .u8 0, .int .u8 0, .int .u8 0, .int .u8 0, .int .u8 0, .int .u8 0, .int .u8 0, .int .u8 0, .int .u8 0, .int .u8 0, .int .u8 0, .int .u8 0, .int .u8 0, .int .u8 0, .int .u8 0, .int .u8 0, .int .u8 0, .int .u8 0, .int .u8 0, .int .i64 0, .int .i64 0, .int .i64 0, .slice none 0 0]) 96 Try.underlying53 info_Ce (by rfl) (of_decide_eq_true (by kernel_rfl)) rfl (E.d 1 0) (OwS.nil _ _ (fun _ => False) (fun _ => False) _) ((Hx1.out.mod Cx9.out (by intro k h1 h2; have hb := HBT.out k h1; omega))) (fun _ _ h => h) (by have h9 := (show x.l.length ≤ 1000 from HP.out.1); simp only [List.length_nil]; omega) (by have h9 := (show x.l.length ≤ 1000 from HP.out.1); simp only [List.length_nil]; rw [maxLen_val]; omega) ?_
  intro ao8 cap8 u2_2 qacc hm
  rw [show ([] : List Ce).length + x.l.length = x.l.length from Nat.zero_add _] at qacc ⊢
  rw [List.nil_append] at qacc
  have Hx10 := hid (qacc.widen (R' := (fun k => (New u1_3 u2_2 k))) (E' := (fun k => (R2 k))) (fun _ h => h.elim (fun h => h.elim) (fun h => h)) (by intro k h1; rcases h1 with h1 | h1 <;> first | omega | exact h1.elim | exact h1))
  have zu2_2 := hm.size
  have Cx11 := hid (show Mod (fun _ => False) u1_3 u2_2 from hm)
  clear hm
  clear act E qacc
  refine QSeq.pure rfl (.pointer (some ⟨w.heap.size, 3, none⟩)) (fun E => ex_field rfl Try.underlying55 rfl (by kernel_rfl) (E.v oe1)) ?_
  refine QSeq.go fun act E => ?_
  refine qc_store rfl (wanted_none rfl) rfl (Hx8.out.mod Cx11.out (fun h => h)) (off := 3) (vs := [Value.slice ao8 (x.l.length) cap8]) (by kernel_rfl) (by intro u hu; simp at hu; subst hu; rfl) (by show 3 + 1 ≤ 6; decide) (E.d 3 0) (by rw [show act.eval ((.tmp 18)) = _ from (E.d 2 1)]; rfl) ?_
  intro u2_4 qc0 hm
  have qB1 : Cs u2_4 (w.heap.size) #[.int .i64 (upn x.rp), .int .i64 (upn x.ep), .int .u64 (x.fl : Nat), Value.slice ao8 (x.l.length) cap8, .int .i64 (upn x.sb), .int .i64 (upn x.mr)] 55 := by rw [show lay _ 3 _ = #[.int .i64 (upn x.rp), .int .i64 (upn x.ep), .int .u64 (x.fl : Nat), Value.slice ao8 (x.l.length) cap8, .int .i64 (upn x.sb), .int .i64 (upn x.mr)] from rfl] at qc0; exact qc0
  clear qc0
  have Hx12 := hid qB1
  have zu2_4 := hm.size
  have HMu2_4 := hid hm
  have Cx13 := hid (Mod.goS (S' := (fun k => (k = w.heap.size))) Cx11.out hm (fun _ h => h.elim) (by intro k h0 h2; exact h2))
  clear hm Cx11
  clear act E qB1 Hx8
  have Hx14 := hid (Hx10.out.mod HMu2_4.out (by intro k h1 h2; omega) (by intro k h1 h2; have hb := HBT.out k h1; omega))
  clear Hx10 HMu2_4
  refine QSeq.nil (t' := [_, _, _, _, _]) rfl ?_
  have ha0 := HA0.out
  subst ha0
  clear HA0 hsz0 oe1
  simp only [putAll, Act.put, List.setIfInBounds_toArray, List.set_cons_zero, List.set_cons_succ, List.set_nil]
  go_upto_region 3 with (fail)
  generalize ha0 : Act.mk _ _ = a0
  have oe1 : a0.eval (.tmp 1) = .pointer (some ⟨w.heap.size, 0, none⟩) := by rw [← ha0]; rfl
  have hsz0 : a0.tmps.size = 38 := by rw [← ha0]; rfl
  have HA0 := hid ha0
  clear ha0
  refine wp_region_S 38 hsz0 [20, 21, 22, 23] [0, 1, 2, 3] ?_
  refine QSeq.pure rfl (.pointer (some ⟨w.heap.size, 3, none⟩)) (fun E => ex_field rfl Try.underlying55 rfl (by kernel_rfl) (E.v oe1)) ?_
  refine QSeq.pure rfl (.slice ao8 (x.l.length) cap8) (fun E => ex_load1 rfl Try.underlying53 rfl (E.d 0 0) (Cs.lit1 Hx12.out rfl)) ?_
  refine QSeq.pure rfl (.int .i64 (x.l.length)) (fun E => ex_lenS rfl (E.d 1 0) Try.underlying53) ?_
  refine QSeq.pure rfl (.int .i64 0) (fun E => ex_move rfl rfl) ?_
  refine QSeq.nil (t' := [_, _, _, _]) rfl ?_
  have ha0 := HA0.out
  subst ha0
  clear HA0 hsz0 oe1
  simp only [putAll, Act.put, List.setIfInBounds_toArray, List.set_cons_zero, List.set_cons_succ]
  go_wp2
  go_loopw [23] (fun ti wr => ∃ k : Nat, ti = .int .i64 (k : Int) ∧ k ≤ x.l.length ∧ u2_4.heap.size ≤ wr.heap.size ∧ OwS CeR 52 (fun k => (New u1_3 u2_2 k)) (fun k => (R2 k) ∨ (u2_4.heap.size ≤ k ∧ k < wr.heap.size)) wr (.slice ao8 (x.l.length) cap8) (upto nicCe k x.l) ∧ Cs wr (w.heap.size) #[.int .i64 (upn x.rp), .int .i64 (upn x.ep), .int .u64 (x.fl : Nat), Value.slice ao8 (x.l.length) cap8, .int .i64 (upn x.sb), .int .i64 (upn x.mr)] 55 ∧ Cs wr (w.heap.size + 1) #[.int .i64 0, .int .i64 0, .int .u64 0, .slice none 0 0, .int .i64 0, .int .i64 0] 55 ∧ Mod (fun _ => False) w wr) (fun ti _ => x.l.length - (intOf ti).toNat)
  case atStart => exact ⟨0, rfl, Nat.zero_le _, Nat.le_refl _, by rw [upto_zero]; exact Hx14.out.widen (fun _ h => h) (by intro k h1; first | omega | exact h1.elim | exact Or.inl h1 | exact Or.inr (h1)), Hx12.out, ((HB2.out.mod Cx9.out (by intro h2; omega)).mod Cx13.out (by intro h2; omega)), ((HM0.out.trans Cx9.out (by intro k h1 h2; omega)).trans Cx13.out (by intro k h1 h2; omega))⟩
  case round =>
    obtain ⟨k1, rfl, hk, hz, ha, hk_0, hk_1, hm⟩ := hrel
    obtain ⟨wl1, rfl⟩ : ∃ x, x = wr := ⟨_, rfl⟩
    have HAL1 := Lib.hid ha
    have HKP1_0 := Lib.hid hk_0
    have HKP1_1 := Lib.hid hk_1
    have HML1 := Lib.hid hm
    clear ha hm hk_0 hk_1 Hx1 Hx12 HB2 HM0 Hx14
    by_cases hlt1 : k1 < x.l.length
    · skip
      go_upto_region 4 with (fail)
      generalize ha0 : Act.mk _ _ = a0
      have oe22 : a0.eval (.tmp 22) = .int .i64 (x.l.length) := by rw [← ha0]; rfl
      have oe23 : a0.eval (.tmp 23) = .int .i64 ((k1 : Nat) : Int) := by rw [← ha0]; rfl
      have hsz0 : a0.tmps.size = 38 := by rw [← ha0]; rfl
      have HA0 := hid ha0
      clear ha0
      refine wp_region_S 38 hsz0 [24] [0] ?_
      refine QSeq.pure rfl (.bool true) (fun E => ex_binE rfl (E.v oe23) (E.v oe22) (guard_ints _ _ _ _ _ _) (run_lss_i _ _ _ Try.underlying3) (congrArg Value.bool (decide_eq_true (by omega)))) ?_
      refine QSeq.nil (t' := [_]) rfl ?_
      have ha0 := HA0.out
      subst ha0
      clear HA0 hsz0 oe22 oe23
      simp only [putAll, Act.put, List.setIfInBounds_toArray, List.set_cons_zero, List.set_cons_succ]
      obtain ⟨y1, hy1⟩ : ∃ y, x.l[k1]? = some y := ⟨_, List.getElem?_eq_getElem hlt1⟩
      have HY1 := Lib.hid hy1
      clear hy1
      obtain ⟨g1, cs1, cur1, eao, hrg, hrd, hcs, -, -⟩ := HAL1.out.at (upto_getE (f := nicCe) HY1.out)
      subst eao
      have HRD1 := hid hrd
      have hcl : cs1.length = 38 := CeR.len hrd
      have HCL1 := Lib.hid hcl
      have HAT1 := hid (show CellsAt (fun k => (New u1_3 u2_2 k)) wl1 g1 (0 + k1 * 38) cs1 from ⟨hrg, hcs⟩)
      clear hrg hcs hrd hcl
      go_upto_region 5 with (fail)
      generalize ha0 : Act.mk _ _ = a0
      have oe23 : a0.eval (.tmp 23) = .int .i64 ((k1 : Nat) : Int) := by rw [← ha0]; rfl
      have hsz0 : a0.tmps.size = 38 := by rw [← ha0]; rfl
      have HA0 := hid ha0
      clear ha0
      refine wp_region_S 38 hsz0 [25, 3] [0, 1] ?_
      refine QSeq.pure rfl (.int .i64 ((k1 : Nat) : Int)) (fun E => ex_move rfl (E.v oe23)) ?_
      refine QSeq.pure rfl (.int .i64 ((k1 : Nat) : Int)) (fun E => ex_assign rfl (E.d 0 0)) ?_
      refine QSeq.nil (t' := [_, _]) rfl ?_
      have ha0 := HA0.out
      subst ha0
      clear HA0 hsz0 oe23
      simp only [putAll, Act.put, List.setIfInBounds_toArray, List.set_cons_zero, List.set_cons_succ]
      go_upto_region 6 with (fail)
      generalize ha0 : Act.mk _ _ = a0
      have oe1 : a0.eval (.tmp 1) = .pointer (some ⟨w.heap.size, 0, none⟩) := by rw [← ha0]; rfl
      have oe3 : a0.eval (.tmp 3) = .int .i64 ((k1 : Nat) : Int) := by rw [← ha0]; rfl
      have hsz0 : a0.tmps.size = 38 := by rw [← ha0]; rfl
      have HA0 := hid ha0
      clear ha0
      refine wp_region_Q1 38 hsz0 [26, 27, 28, 29, 30, 31, 32, 33, 34, 35, 48] (fun k => (New u1_3 u2_2 k)) (fun k j => (k = 1 ∧ ((New u1_3 u2_2 j)))) (fun _ _ h => h.2) [qi (.pointer (some ⟨w.heap.size, 3, none⟩)), qi (.slice (some ⟨g1, 0, none⟩) (x.l.length) cap8), qi (.int .i64 ((k1 : Nat) : Int)), qi (.pointer (some ⟨w.heap.size, 3, none⟩)), qi (.slice (some ⟨g1, 0, none⟩) (x.l.length) cap8), qi (.int .i64 ((k1 : Nat) : Int)), qi (.pointer (some ⟨g1, 0 + k1 * 38, none⟩)), qi (.agg cs1.toArray), qv 0, qi (.pointer (some ⟨g1, 0 + k1 * 38, none⟩)), qv 1] ⟨qi_stable, qi_stable, qi_stable, qi_stable, qi_stable, qi_stable, qi_stable, qi_stable, qv_stable, qi_stable, qv_stable, trivial⟩ [8, 10] ⟨?_, ?_, ?_, ?_, ?_, ?_, ?_, ?_, ?_, ?_, ?_, trivial⟩ ?_
      · exact stq (fun E => ex_field rfl Try.underlying55 rfl (by kernel_rfl) (E.v oe1))
      · exact stq (fun E => ex_load1 rfl Try.underlying53 rfl (E.d 0) (Cs.lit1 (HKP1_0.out.mod E.m (by intro h2; omega)) rfl))
      · exact stq (fun E => ex_move rfl (E.v oe3))
      · exact stq (fun E => ex_field rfl Try.underlying55 rfl (by kernel_rfl) (E.v oe1))
      · exact stq (fun E => ex_load1 rfl Try.underlying53 rfl (E.d 3) (Cs.lit1 (HKP1_0.out.mod E.m (by intro h2; omega)) rfl))
      · exact stq (fun E => ex_move rfl (E.v oe3))
      · exact stq (fun E => ex_idxS (i := k1) (s := 38) rfl Try.underlying53 (by kernel_rfl) (E.d 4) (E.d 5) (by omega))
      · refine stepq_env rfl rfl rfl fun _ _ _ _ _ _ hm0 _ _ hd hub _ => ?_
        have h6 := hd ⟨6, .data⟩ (by simp) rfl _ rfl
        refine qe_run rfl (wanted_none rfl) (ex_loadA rfl Try.underlying52 rfl (off := 0 + k1 * 38) (cs := cs1) (by rw [HCL1.out]; kernel_rfl) h6 (fun j u hu => ((HAT1.out.mod hm0 (by intro k h1 h2; have hu := hub 1 10 rfl (by kernel_rfl); rcases h2 with ⟨h0, kk, hk, h2⟩ | h2 <;> first | omega | (first | omega | (have hb := HBT.out k h1; omega) | (have hb := HBT.out k h2; omega))))).2 j u hu)) QE.refl ?_
        rfl
      · exact stepq_chain rfl
      · exact stq (fun E => ex_idxS (i := k1) (s := 38) rfl Try.underlying53 (by kernel_rfl) (E.d 1) (E.d 2) (by omega))
      · exact stepq_chain rfl
      intro u6_0 hr
      have zu6_0 := hr.size
      clear HAT1
      have Cx15 := hid (hr.new (S := (fun k => (New u1_3 u2_2 k))))
      have Hx16 := hid (HAL1.out.mod hr (by intro k h1 h2; omega) (by intro k h1 h2; rcases h1 with h1 | h1 <;> first | omega | (have hb := HBT.out k h1; omega)))
      clear HAL1
      clear hr
      refine QChain.go fun Z act E => ?_
      refine qc_callF (args := #[.agg cs1.toArray]) rfl (wanted_none rfl) rfl Try.func53 (args1 (E.d 7)) (nice_c _ _ _ _ (HRD1.out.mod Cx15.out (by intro k h1 h2; rcases h1 with h1 | h1 <;> first | omega | (have hb := HBT.out k h1; omega))) (by intro k h1; rcases h1 with h1 | h1 <;> first | omega | (have hb := HBT.out k h1; omega)) (HP.out.2 _ (List.mem_of_getElem? HY1.out))) ?_
      rintro e u6_1a ⟨cz1, rfl, qel1, hm⟩
      have zu6_1a := hm.size
      refine ⟨_, rfl, hm.mono (fun _ _ h => h.elim), (fun _ => rfl), ?_⟩
      intro u6_1 hr
      have zu6_1 := hr.size
      have Hx17 := hid ((qel1.widen (R' := (fun k => (R2 k) ∨ (New u2_4 wl1 k) ∨ (New u6_0 u6_1a k))) (by intro k h1; simp only [or_assoc] at h1 ⊢; exact h1)).mod hr (by intro k h1 h2; rcases h1 with h1 | h1 | h1 <;> first | omega | (have hb := HBT.out k h1; omega)))
      have hmr := Mod.after hm hr
      have Hx18 := hid (Hx16.out.mod hmr (by intro k h1 h2; omega) (by intro k h1 h2; rcases h1 with h1 | h1 <;> first | omega | (have hb := HBT.out k h1; omega)))
      clear Hx16
      clear hmr
      have Cx19 := hid (Cx15.out.go hm hr)
      clear Cx15 hm hr Z act E qel1 HRD1
      refine QChain.go fun Z act E => ?_
      refine qc_putS (A := CeR) (off := 0 + k1 * 38) (cs := cz1) (z := (nicCe y1)) rfl (wanted_none rfl) rfl (Hx18.out.widen (E' := (fun k => (R2 k) ∨ (New u2_4 wl1 k) ∨ (New u6_0 u6_1a k))) (fun _ h => h) (by intro k h1; rcases h1 with h1 | h1 <;> first | omega | exact h1.elim | exact Or.inl h1 | exact Or.inr (Or.inl h1) | exact Or.inr (Or.inr (h1)))) (by rw [upto_len]; exact hlt1) (Nat.zero_add _) Hx17.out (by intro k h1; (try dsimp only at h1 ⊢); rcases h1 with h1 | h1 | h1 <;> first | (have hb := HBT.out k h1; exact ⟨Or.inl h1, by omega⟩) | exact ⟨Or.inr (by omega), by omega⟩) (by intro k h1 h2; (try dsimp only at h1 h2); rcases h1 with h1 | h1 | h1 <;> first | omega | (have := HBT.out k h1; omega)) (by kernel_rfl) (E.d 9) (by rw [show act.eval (.tmp 34) = _ from (chv (v := .agg cz1.toArray) (E.d 8))]; rfl) ?_
      intro u6_2a q0 hm
      have qacc := q0
      rw [upto_setE HY1.out] at qacc
      clear q0
      have zu6_2a := hm.size
      refine ⟨hm.mono (by intro k hk h; omega), (fun _ => rfl), ?_⟩
      intro u6_2 hr
      have zu6_2 := hr.size
      have Hx20 := hid (qacc.mod hr (by intro k h1 h2; omega) (by intro k h1 h2; rcases h1 with h1 | h1 | h1 <;> first | omega | (have hb := HBT.out k h1; omega)))
      have hmr := hm.two hr
      have Hx21 := hid (Hx17.out.mod hmr (by intro k h1 h2; rcases h1 with h1 | h1 | h1 <;> first | omega | (have hb := HBT.out k h1; omega)))
      clear Hx17
      clear hmr
      have Cx22 := hid (Cx19.out.goM hm hr (fun _ _ h => h))
      clear Cx19 hm hr Z act E qacc Hx18
      refine QChain.nil fun vs hl hzz hrows hne => ?_
      obtain ⟨Z, hYZ, hZb, hV⟩ := hzz
      have f2 := fvi hV hl 2
      have f5 := fvi hV hl 5
      have f8 := fvc hV hl 8
      rw [show vs = [gw vs 0, gw vs 1, gw vs 2, gw vs 3, gw vs 4, gw vs 5, gw vs 6, gw vs 7, gw vs 8, gw vs 9, gw vs 10] from (gw_eta hl).trans rfl]
      have ha0 := HA0.out
      subst ha0
      clear HA0 hV hYZ hZb hsz0 hrows hne oe1 oe3
      simp only [putAll, Act.put, List.setIfInBounds_toArray, List.set_cons_zero, List.set_cons_succ, List.set_nil, f2, f5, f8]
      clear hl f2 f5 f8
      clear Hx21
      go_upto_region 7 with (fail)
      generalize ha0 : Act.mk _ _ = a0
      have oe23 : a0.eval (.tmp 23) = .int .i64 ((k1 : Nat) : Int) := by rw [← ha0]; rfl
      have hsz0 : a0.tmps.size = 38 := by rw [← ha0]; rfl
      have HA0 := hid ha0
      clear ha0
      refine wp_region_S 38 hsz0 [36, 23] [0, 1] ?_
      refine QSeq.pure rfl (.int .i64 (((k1 : Nat) : Int) + 1)) (fun E => ex_binE rfl (E.y 1 oe23) rfl (guard_ints _ _ _ _ _ _) (run_add_i _ _ Try.underlying3) (congrArg (Value.int .i64) (IntWalk.i64_in _ (by have h9 := (show x.l.length ≤ 1000 from HP.out.1); omega)))) ?_
      refine QSeq.pure rfl (.int .i64 (((k1 : Nat) : Int) + 1)) (fun E => ex_move rfl (E.d 0 0)) ?_
      refine QSeq.nil (t' := [_, _]) rfl ?_
      have ha0 := HA0.out
      subst ha0
      clear HA0 hsz0 oe23
      simp only [putAll, Act.put, List.setIfInBounds_toArray, List.set_cons_zero, List.set_cons_succ]
      go_wp2
      go_roundw
      case rel => exact ⟨k1 + 1, by go_num, by omega, by omega, (Hx20.out.widen (fun _ h => h) (by intro k h1; rcases h1 with h1 | h1 | h1 <;> first | omega | exact h1.elim | exact Or.inl h1 | exact Or.inr (h1))), (HKP1_0.out.mod Cx22.out (by intro h2; omega)), (HKP1_1.out.mod Cx22.out (by intro h2; omega)), (HML1.out.trans Cx22.out (by intro k h1 h2; omega))⟩
      case measure => simp [intOf]; omega
    · skip
      go_upto_region 4 with (fail)
      generalize ha0 : Act.mk _ _ = a0
      have oe22 : a0.eval (.tmp 22) = .int .i64 (x.l.length) := by rw [← ha0]; rfl
      have oe23 : a0.eval (.tmp 23) = .int .i64 ((k1 : Nat) : Int) := by rw [← ha0]; rfl
      have hsz0 : a0.tmps.size = 38 := by rw [← ha0]; rfl
      have HA0 := hid ha0
      clear ha0
      refine wp_region_S 38 hsz0 [24] [0] ?_
      refine QSeq.pure rfl (.bool false) (fun E => ex_binE rfl (E.v oe23) (E.v oe22) (guard_ints _ _ _ _ _ _) (run_lss_i _ _ _ Try.underlying3) (congrArg Value.bool (decide_eq_false (by omega)))) ?_
      refine QSeq.nil (t' := [_]) rfl ?_
      have ha0 := HA0.out
      subst ha0
      clear HA0 hsz0 oe22 oe23
      simp only [putAll, Act.put, List.setIfInBounds_toArray, List.set_cons_zero, List.set_cons_succ]
      have hq := HAL1.out
      rw [upto_all (by omega)] at hq
      have HQ1 := Lib.hid hq
      clear hq
      go_upto_region 8 with (fail)
      generalize ha0 : Act.mk _ _ = a0
      have oe1 : a0.eval (.tmp 1) = .pointer (some ⟨w.heap.size, 0, none⟩) := by rw [← ha0]; rfl
      have oe2 : a0.eval (.tmp 2) = .pointer (some ⟨w.heap.size + 1, 0, none⟩) := by rw [← ha0]; rfl
      have hsz0 : a0.tmps.size = 38 := by rw [← ha0]; rfl
      have HA0 := hid ha0
      clear ha0
      refine wp_region_S 38 hsz0 [37, 39] [0, 1] ?_
      refine QSeq.pure rfl (.agg #[.int .i64 (upn x.rp), .int .i64 (upn x.ep), .int .u64 (x.fl : Nat), Value.slice ao8 (x.l.length) cap8, .int .i64 (upn x.sb), .int .i64 (upn x.mr)]) (fun E => ex_loadA rfl Try.underlying55 rfl (off := 0) (cs := [.int .i64 (upn x.rp), .int .i64 (upn x.ep), .int .u64 (x.fl : Nat), Value.slice ao8 (x.l.length) cap8, .int .i64 (upn x.sb), .int .i64 (upn x.mr)]) (by kernel_rfl) (E.v oe1) (Cs.whole HKP1_0.out)) ?_
      refine QSeq.go fun act E => ?_
      refine qc_store rfl (wanted_none rfl) rfl HKP1_1.out (off := 0) (vs := [.int .i64 (upn x.rp), .int .i64 (upn x.ep), .int .u64 (x.fl : Nat), Value.slice ao8 (x.l.length) cap8, .int .i64 (upn x.sb), .int .i64 (upn x.mr)]) (by kernel_rfl) (by intro u hu; simp at hu; rcases hu with rfl | rfl | rfl | rfl | rfl | rfl <;> rfl) (by show 0 + 6 ≤ 6; decide) (E.v oe2) (by rw [show act.eval ((.tmp 37)) = _ from (E.d 0 0)]; rfl) ?_
      intro u8_1 qc0 hm
      have qB2 : Cs u8_1 (w.heap.size + 1) #[.int .i64 (upn x.rp), .int .i64 (upn x.ep), .int .u64 (x.fl : Nat), Value.slice ao8 (x.l.length) cap8, .int .i64 (upn x.sb), .int .i64 (upn x.mr)] 55 := by rw [show lay _ 0 _ = #[.int .i64 (upn x.rp), .int .i64 (upn x.ep), .int .u64 (x.fl : Nat), Value.slice ao8 (x.l.length) cap8, .int .i64 (upn x.sb), .int .i64 (upn x.mr)] from rfl] at qc0; exact qc0
      clear qc0
      have Hx23 := hid qB2
      have zu8_1 := hm.size
      have Cx24 := hid (show Mod (fun k => (k = w.heap.size + 1)) wl1 u8_1 from hm)
      clear hm
      clear act E qB2 HKP1_1
      refine QSeq.nil (t' := [_, _]) rfl ?_
      have ha0 := HA0.out
      subst ha0
      clear HA0 hsz0 oe1 oe2
      simp only [putAll, Act.put, List.setIfInBounds_toArray, List.set_cons_zero, List.set_cons_succ, List.set_nil]
      go_wp2
      have hq := (HQ1.out.mod Cx24.out (by intro k h1 h2; omega) (by intro k h1 h2; rcases h1 with h1 | h1 <;> first | omega | (have hb := HBT.out k h1; omega)))
      refine bodyPost_ret (results_cellA rfl _ _ (w.heap.size + 1) ([.int .i64 (upn x.rp), .int .i64 (upn x.ep), .int .u64 (x.fl : Nat), Value.slice ao8 (x.l.length) cap8, .int .i64 (upn x.sb), .int .i64 (upn x.mr)]) rfl (fun k u hu => by rw [Hx23.out.cell]; simpa using hu) Try.underlying55 rfl (by kernel_rfl)) rfl ⟨_, rfl, ⟨_, rfl, ⟨upn_I _, upn_I _, HOK.out.2.2.1, upn_I _, upn_I _⟩, ?_⟩, (HML1.out.trans Cx24.out (by intro k h1 h2; omega))⟩
      have hq2 : RdS CeR _ _ _ (x.l.map nicCe) := hq.rd
      refine RdS.widen (show RdS CeR _ _ _ (nicPm x).l from hq2) ?_
      intro k h
      (try dsimp only at h ⊢)
      rcases h with h | h | h
      · right; omega
      · exact Or.inl h
      · right; omega
end Go.Proofs.Ytknpapcfhnhheaa
