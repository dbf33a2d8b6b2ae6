/- Texts that are built one behind the other: XLens, XWbp, XGt1, XGt2, XGw, XWhp, XBrows, XRowSum, XRowsO, XBt, XSl, XCmEq, XEq, XEb, XKp1, XKp2, XConf, XTn. No condition. -/
import Derived.Test.YtknpapcfhnhheaaMh7
import Derived.Deep.RegionWith
set_option maxRecDepth 100000
set_option linter.unusedVariables false
/- How long bytes are; lists of values. -/
namespace Go.Proofs.Ytknpapcfhnhheaa
open Go Go.RowKit Go.Gv


theorem RdS_mem {α : Type} {A : Rep α} {R : Nat → Prop} {w : World} {v : Value} {l : List α} (h : RdS A R w v l) : ∀ a ∈ l, ∃ cs, A.rd R w cs a := by
  obtain ⟨css, h1, h2, -⟩ := h
  intro a ha
  obtain ⟨i, hi, rfl⟩ := List.getElem_of_mem ha
  exact ⟨css[i], h2 i _ _ (List.getElem?_eq_getElem (by omega)) (List.getElem?_eq_getElem hi)⟩
theorem flatB_le {α : Type} (f : α → List Int) (N : Nat) : ∀ l : List α, (∀ a ∈ l, (f a).length ≤ N) → ((l.map f).flatten).length ≤ l.length * N
  | [], _ => by simp
  | a :: r, h => by
    have h1 := h a (by simp)
    have h2 := flatB_le f N r (fun b hb => h b (by simp [hb]))
    simp only [List.map_cons, List.flatten_cons, List.length_append, List.length_cons, Nat.add_mul]
    omega
theorem listB_len {α : Type} (f : α → List Int) {N M : Nat} {l : List α} (hl : l.length ≤ M) (hM : M ≤ 1000000) (h : ∀ a ∈ l, (f a).length ≤ N) : (listB f l).length ≤ 10 + M * N := by
  have h1 := flatB_le f N l h
  have h2 := encI_len0 (l.length : Int) (by unfold I64; omega)
  have h3 := Nat.mul_le_mul_right N hl
  simp only [listB, List.length_append]
  omega
theorem stB_len {x : St} (h : x.OK) : (stB x).length ≤ 92 := by
  have h1 := encI_len0 _ h.rp; have h2 := encI_len0 _ h.cl; have h3 := encI_len0 _ h.sq; have h4 := (encN_len10 h.tm).2; have h5 := encI_len0 _ h.sb; have h6 := encI_len0 _ h.mr; have h7 := h.h.1
  simp only [stB, nameB, sigB, List.length_append]; omega
theorem cmB_len {x : Cm} (h : x.OK) : (cmB x).length ≤ 82 := by
  obtain ⟨⟨a, b, c, d, e⟩, f⟩ := h
  have h1 := encI_len0 _ a; have h2 := encI_len0 _ b; have h3 := encI_len0 _ c; have h4 := encI_len0 _ d; have h5 := encI_len0 _ e; have h7 := f.1
  simp only [cmB, nameB, sigB, List.length_append]; omega
theorem ceB_len {R : Nat → Prop} {w : World} {cs : List Value} {x : Ce} (h : CeR.rd R w cs x) (hl : x.l.length ≤ 5) : (ceB x).length ≤ 552 := by
  obtain ⟨_, rfl, hok, hs⟩ := h
  have h1 := listB_len stB hl (by decide) (fun a ha => by obtain ⟨cs, e, hk⟩ := RdS_mem hs a ha; exact stB_len hk)
  have h2 := cmB_len hok
  simp only [ceB, List.length_append]; omega
theorem Same_true {R R' : Nat → Prop} {N N' : Nat} {va vb : Value} {a b : List Int} {w : World} (ha : RdR R N w va a) (hb : RdR R' N' w vb b) (h : a = b) :
    Calls Try.prog 18 #[va, vb] w fun e w' => e = .returned (.bool true) ∧ Mod (fun _ => False) w w' :=
  (Same_R ha hb).mono fun _ _ ⟨he, hm⟩ => ⟨he.trans (by rw [decide_eq_true h]), hm⟩
theorem Same_b {R R' : Nat → Prop} {N N' : Nat} {va vb : Value} {a b : List Int} {w : World} (ha : RdR R N w va a) (hb : RdR R' N' w vb b) {c : Bool} (h : decide (a = b) = c) :
    Calls Try.prog 18 #[va, vb] w fun e w' => e = .returned (.bool c) ∧ Mod (fun _ => False) w w' :=
  (Same_R ha hb).mono fun _ _ ⟨he, hm⟩ => ⟨he.trans (by rw [h]), hm⟩
theorem pmB_len {R : Nat → Prop} {w : World} {cs : List Value} {x : Pm} (h : PmR.rd R w cs x) (hl : ∃ y, x = cutPm y) : (pmB x).length ≤ 1800 := by
  obtain ⟨y, rfl⟩ := hl
  obtain ⟨_, rfl, ⟨a, b, c, d, e⟩, hs⟩ := h
  have h1 := encI_len0 _ a; have h2 := encI_len0 _ b; have h3 := (encN_len10 c).2; have h4 := encI_len0 _ d; have h5 := encI_len0 _ e
  have h6 := listB_len ceB (M := 3) (show (cutPm y).l.length ≤ 3 by simp [cutPm]; omega) (by decide) (fun z hz => by
    obtain ⟨cs, hc⟩ := RdS_mem hs z hz
    refine ceB_len hc ?_
    obtain ⟨u, -, rfl⟩ := List.mem_map.1 hz
    simp [cutCe]; omega)
  simp only [pmB, sigB, List.length_append]; omega
theorem opB_len {R : Nat → Prop} {w : World} {cs : List Value} {x : Op} (h : OpR.rd R w cs x) (hl : x.pl.length ≤ 260) : (opB x).length ≤ 312 := by
  obtain ⟨_, rfl, ⟨a, b⟩, hs⟩ := h
  have h1 := encI_len0 _ a; have h2 := (encN_len10 (n := x.pl.length) (by unfold U64; omega)).2; have h3 := b.1
  simp only [opB, List.length_append]; omega
theorem dnB_len {x : Dn} (h : x.OK) : (dnB x).length ≤ 40 := by
  have h1 := encI_len0 _ h.rp; have h2 := encI_len0 _ h.ix; have h5 := encI_len0 _ h.sb; have h6 := encI_len0 _ h.mr
  simp only [dnB, sigB, List.length_append]; omega
theorem tbB_len {R : Nat → Prop} {w : World} {cs : List Value} {x : Tb} (h : TbR.rd R w cs x) (hl : x.l.length ≤ 5) : (tbB x).length ≤ 220 := by
  obtain ⟨_, rfl, a, hs⟩ := h
  have h1 := encI_len0 _ a
  have h2 := listB_len dnB hl (by decide) (fun z hz => by obtain ⟨cs, e, hk⟩ := RdS_mem hs z hz; exact dnB_len hk)
  simp only [tbB, List.length_append]; omega
theorem baB_len {R : Nat → Prop} {w : World} {x : Ba} {vp vo vt : Value} (hok : x.OK) (hp : RdS PmR R w vp (cutBa x).ps) (ho : RdS OpR R w vo (cutBa x).os) (ht : RdS TbR R w vt (cutBa x).ts) : (baB (cutBa x)).length ≤ 100000 := by
  have h1 := encI_len0 _ hok.1; have h2 := (encN_len10 hok.2).2
  have h3 := listB_len pmB (M := 4) (l := (cutBa x).ps) (by simp [cutBa]; omega) (by decide) (fun z hz => by
    obtain ⟨cs, hc⟩ := RdS_mem hp z hz
    obtain ⟨u, -, rfl⟩ := List.mem_map.1 hz
    exact pmB_len hc ⟨u, rfl⟩)
  have h4 := listB_len opB (M := 4) (l := (cutBa x).os) (by simp [cutBa]; omega) (by decide) (fun z hz => by
    obtain ⟨cs, hc⟩ := RdS_mem ho z hz
    obtain ⟨u, -, rfl⟩ := List.mem_map.1 hz
    exact opB_len hc (by simp [cutOp]; omega))
  have h5 := listB_len tbB (M := 4) (l := (cutBa x).ts) (by simp [cutBa]; omega) (by decide) (fun z hz => by
    obtain ⟨cs, hc⟩ := RdS_mem ht z hz
    obtain ⟨u, -, rfl⟩ := List.mem_map.1 hz
    exact tbB_len hc (by simp [cutTb]; omega))
  have e1 : (encI (cutBa x).ep).length ≤ 10 := h1
  have e2 : (encN (cutBa x).tm).length ≤ 10 := h2
  simp only [baB, List.length_append]; omega
end Go.Proofs.Ytknpapcfhnhheaa

/- Things that were cut and made not too great: within the reader's bounds, of few bytes. No walk here. -/
namespace Go.Proofs.Ytknpapcfhnhheaa
open Go Go.RowKit Go.Gv

theorem upn_U (n : Int) : UpI (upn n) := by have := upn_range n; unfold UpI; omega
theorem StOk_nic {x : St} (h : (nicSt x).OK) : StOk (nicSt x) := ⟨upn_U _, upn_U _, upn_U _, h.h, h.tm, upn_U _, upn_U _⟩
theorem DnOk_nic (x : Dn) : DnOk (nicDn x) := ⟨upn_U _, upn_U _, upn_U _, upn_U _⟩
section
variable {R : Nat → Prop} {w : World} {cs : List Value}
theorem CeOk_nic {x : Ce} (h : CeR.rd R w cs (nicCe (cutCe x))) : CeOk (nicCe (cutCe x)) := by
 obtain ⟨v, rfl, hok, hs⟩ := h
 refine ⟨⟨upn_U _, upn_U _, hok.2, upn_U _, upn_U _, upn_U _⟩, ?_, fun a ha => ?_⟩
 ·simp only [nicCe, cutCe, List.length_map, List.length_take]; omega
 ·obtain ⟨c, -, hc⟩ := RdS_mem hs a ha
  simp only [nicCe, cutCe, List.mem_map] at ha
  obtain ⟨b, -, rfl⟩ := ha
  exact StOk_nic hc
theorem PmOk_nic {x : Pm} (h : PmR.rd R w cs (nicPm (cutPm x))) : PmOk (nicPm (cutPm x)) := by
 obtain ⟨v, rfl, hok, hs⟩ := h
 refine ⟨upn_U _, upn_U _, hok.2.2.1, ⟨?_, fun a ha => ?_⟩, upn_U _, upn_U _⟩
 ·simp only [nicPm, cutPm, List.length_map, List.length_take]; omega
 ·obtain ⟨c, hc⟩ := RdS_mem hs a ha
  simp only [nicPm, cutPm, List.mem_map] at ha
  obtain ⟨b, ⟨b2, -, rfl⟩, rfl⟩ := ha
  exact CeOk_nic hc
theorem BaOk_nic {x : Ba} (h : BaR.rd R w cs (nicBa (cutBa x))) : BaOk (nicBa (cutBa x)) := by
 obtain ⟨v1, v2, v3, rfl, hok, h1, h2, h3⟩ := h
 refine ⟨upn_U _, hok.2, ⟨?_, fun a ha => ?_⟩, ⟨?_, fun a ha => ?_⟩, ⟨?_, fun a ha => ?_⟩⟩
 ·simp only [nicBa, cutBa, List.length_map, List.length_take]; omega
 ·obtain ⟨c, hc⟩ := RdS_mem h1 a ha
  simp only [nicBa, cutBa, List.mem_map] at ha
  obtain ⟨b, ⟨b2, -, rfl⟩, rfl⟩ := ha
  exact PmOk_nic hc
 ·simp only [nicBa, cutBa, List.length_map, List.length_take]; omega
 ·obtain ⟨c, v, -, hc, -⟩ := RdS_mem h2 a ha
  simp only [nicBa, cutBa, List.mem_map] at ha
  obtain ⟨b, ⟨b2, -, rfl⟩, rfl⟩ := ha
  exact ⟨upn_U _, by simp only [nicOp, List.length_take]; omega, hc.2⟩
 ·simp only [nicBa, cutBa, List.length_map, List.length_take]; omega
 ·obtain ⟨c, v, -, hc, -⟩ := RdS_mem h3 a ha
  simp only [nicBa, cutBa, List.mem_map] at ha
  obtain ⟨b, ⟨b2, -, rfl⟩, rfl⟩ := ha
  refine ⟨upn_U _, ?_, fun a ha => ?_⟩
  ·simp only [nicTb, cutTb, List.length_map, List.length_take]; omega
  ·simp only [nicTb, cutTb, List.mem_map] at ha
   obtain ⟨b, -, rfl⟩ := ha
   exact DnOk_nic b
/-- what is cut and not too great is cut -/
theorem cutCe_nic (x : Ce) : cutCe (nicCe (cutCe x)) = nicCe (cutCe x) := by
 simp only [cutCe, nicCe, ← List.map_take, List.take_take, Nat.min_self]
theorem cutPm_nic (x : Pm) : cutPm (nicPm (cutPm x)) = nicPm (cutPm x) := by
 have h1 : ∀ l : List Ce, (((l.take 3).map cutCe).map nicCe).map cutCe = ((l.take 3).map cutCe).map nicCe := fun l => by
  simp only [List.map_map]
  exact List.map_congr_left fun a _ => cutCe_nic a
 have e1 : ((nicPm (cutPm x)).l.take 3).map cutCe = (nicPm (cutPm x)).l := by
  show ((((x.l.take 3).map cutCe).map nicCe).take 3).map cutCe = ((x.l.take 3).map cutCe).map nicCe
  rw [List.take_of_length_le (by simp only [List.length_map, List.length_take]; omega), h1]
 show Pm.mk _ _ _ _ _ _ = Pm.mk _ _ _ _ _ _
 rw [e1]
 rfl
theorem cutBa_nic (x : Ba) : cutBa (nicBa (cutBa x)) = nicBa (cutBa x) := by
 have h1 : ∀ l : List Pm, (((l.take 4).map cutPm).map nicPm).map cutPm = ((l.take 4).map cutPm).map nicPm := fun l => by
  simp only [List.map_map]
  exact List.map_congr_left fun a _ => cutPm_nic a
 have h2 : ∀ l : List Op, (((l.take 4).map cutOp).map nicOp).map cutOp = ((l.take 4).map cutOp).map nicOp := fun l => by
  simp only [List.map_map]
  refine List.map_congr_left fun a _ => ?_
  show cutOp (nicOp (cutOp a)) = nicOp (cutOp a)
  simp only [cutOp, nicOp, List.take_take]
  rfl
 have h3 : ∀ l : List Tb, (((l.take 4).map cutTb).map nicTb).map cutTb = ((l.take 4).map cutTb).map nicTb := fun l => by
  simp only [List.map_map]
  refine List.map_congr_left fun a _ => ?_
  show cutTb (nicTb (cutTb a)) = nicTb (cutTb a)
  simp only [cutTb, nicTb, ← List.map_take, List.take_take, Nat.min_self]
 show Ba.mk _ _ _ _ _ = Ba.mk _ _ _ _ _
 have e1 : ((nicBa (cutBa x)).ps.take 4).map cutPm = (nicBa (cutBa x)).ps := by
  show ((((x.ps.take 4).map cutPm).map nicPm).take 4).map cutPm = ((x.ps.take 4).map cutPm).map nicPm
  rw [List.take_of_length_le (by simp only [List.length_map, List.length_take]; omega), h1]
 have e2 : ((nicBa (cutBa x)).os.take 4).map cutOp = (nicBa (cutBa x)).os := by
  show ((((x.os.take 4).map cutOp).map nicOp).take 4).map cutOp = ((x.os.take 4).map cutOp).map nicOp
  rw [List.take_of_length_le (by simp only [List.length_map, List.length_take]; omega), h2]
 have e3 : ((nicBa (cutBa x)).ts.take 4).map cutTb = (nicBa (cutBa x)).ts := by
  show ((((x.ts.take 4).map cutTb).map nicTb).take 4).map cutTb = ((x.ts.take 4).map cutTb).map nicTb
  rw [List.take_of_length_le (by simp only [List.length_map, List.length_take]; omega), h3]
 rw [e1, e2, e3]
 rfl
theorem baB_nic {x : Ba} (h : BaR.rd R w cs (nicBa (cutBa x))) : (baB (nicBa (cutBa x))).length ≤ 100000 := by
 obtain ⟨v1, v2, v3, rfl, hok, h1, h2, h3⟩ := h
 have := baB_len (x := nicBa (cutBa x)) hok (by rw [cutBa_nic]; exact h1) (by rw [cutBa_nic]; exact h2) (by rw [cutBa_nic]; exact h3)
 rwa [cutBa_nic] at this
/-- few things, before they are made not too great -/
theorem few_Ce (x : Ce) : fewCe (cutCe x) := by unfold fewCe; simp only [cutCe, List.length_take]; omega
theorem few_Pm (x : Pm) : fewPm (cutPm x) := by
 refine ⟨by simp only [cutPm, List.length_map, List.length_take]; omega, fun y hy => ?_⟩
 simp only [cutPm, List.mem_map] at hy
 obtain ⟨b, -, rfl⟩ := hy
 exact few_Ce b
theorem few_Ba (x : Ba) : fewBa (cutBa x) := by
 refine ⟨by simp only [cutBa, List.length_map, List.length_take]; omega, fun y hy => ?_, by simp only [cutBa, List.length_map, List.length_take]; omega, by simp only [cutBa, List.length_map, List.length_take]; omega, fun y hy => ?_⟩
 ·simp only [cutBa, List.mem_map] at hy
  obtain ⟨b, -, rfl⟩ := hy
  exact few_Pm b
 ·simp only [cutBa, List.mem_map] at hy
  obtain ⟨b, -, rfl⟩ := hy
  simp only [cutTb, List.length_take]; omega
end
end Go.Proofs.Ytknpapcfhnhheaa

/- Small parts of messages, read. -/
namespace Go.Proofs.Ytknpapcfhnhheaa
open Go Go.RowKit Go.Gv

end Go.Proofs.Ytknpapcfhnhheaa

/- Parts of messages, read. -/
namespace Go.Proofs.Ytknpapcfhnhheaa
open Go Go.RowKit Go.Gv

end Go.Proofs.Ytknpapcfhnhheaa

/- Whole parts of messages, read (package wire). -/
namespace Go.Proofs.Ytknpapcfhnhheaa
open Go Go.RowKit Go.Gv


theorem HK_zero : HK (List.replicate 32 0) := by
 refine ⟨by simp, ?_⟩
 intro x hx
 simp at hx
 subst hx
 decide
end Go.Proofs.Ytknpapcfhnhheaa

/- What is not too great stays as it is; a batch's bytes say what it is; batches with one thing more or less. No walk here. -/
namespace Go.Proofs.Ytknpapcfhnhheaa
open Go Go.RowKit Go.Gv

theorem upn_upn (n : Int) : upn (upn n) = upn n := by
 have h := upn_range n
 generalize upn n = m at h
 unfold upn within
 rw [if_neg (by omega), Int.emod_eq_of_lt h.1 h.2]
theorem nicSt_twice (x : St) : nicSt (nicSt x) = nicSt x := by simp only [nicSt, upn_upn]
theorem nicDn_twice (x : Dn) : nicDn (nicDn x) = nicDn x := by simp only [nicDn, upn_upn]
theorem nicCe_twice (x : Ce) : nicCe (nicCe x) = nicCe x := by
 have h : (x.l.map nicSt).map nicSt = x.l.map nicSt := by rw [List.map_map]; exact List.map_congr_left fun a _ => nicSt_twice a
 show Ce.mk _ _ = Ce.mk _ _
 have e1 : nicCm (nicCm x.c) = nicCm x.c := by simp only [nicCm, upn_upn]
 rw [show (nicCe x).l.map nicSt = x.l.map nicSt from h, show nicCm (nicCe x).c = nicCm x.c from e1]
theorem nicPm_twice (x : Pm) : nicPm (nicPm x) = nicPm x := by
 have h : (x.l.map nicCe).map nicCe = x.l.map nicCe := by rw [List.map_map]; exact List.map_congr_left fun a _ => nicCe_twice a
 show Pm.mk (upn (upn x.rp)) (upn (upn x.ep)) x.fl ((x.l.map nicCe).map nicCe) (upn (upn x.sb)) (upn (upn x.mr)) = Pm.mk _ _ _ _ _ _
 rw [h, upn_upn, upn_upn, upn_upn, upn_upn]
theorem nicOp_twice (x : Op) : nicOp (nicOp x) = nicOp x := by simp only [nicOp, upn_upn, List.take_take, Nat.min_self]
theorem nicTb_twice (x : Tb) : nicTb (nicTb x) = nicTb x := by
 have h : (x.l.map nicDn).map nicDn = x.l.map nicDn := by rw [List.map_map]; exact List.map_congr_left fun a _ => nicDn_twice a
 show Tb.mk (upn (upn x.ix)) ((x.l.map nicDn).map nicDn) = Tb.mk _ _
 rw [h, upn_upn]
theorem nicBa_twice (x : Ba) : nicBa (nicBa x) = nicBa x := by
 have h1 : (x.ps.map nicPm).map nicPm = x.ps.map nicPm := by rw [List.map_map]; exact List.map_congr_left fun a _ => nicPm_twice a
 have h2 : (x.os.map nicOp).map nicOp = x.os.map nicOp := by rw [List.map_map]; exact List.map_congr_left fun a _ => nicOp_twice a
 have h3 : (x.ts.map nicTb).map nicTb = x.ts.map nicTb := by rw [List.map_map]; exact List.map_congr_left fun a _ => nicTb_twice a
 show Ba.mk (upn (upn x.ep)) x.tm ((x.ps.map nicPm).map nicPm) ((x.os.map nicOp).map nicOp) ((x.ts.map nicTb).map nicTb) = Ba.mk _ _ _ _ _
 rw [h1, h2, h3, upn_upn]
/-- a batch's bytes say what it is -/
theorem baB_inj {a b : Ba} (ha : BaOk a) (hb : BaOk b) (h : baB a = baB b) : a = b := by
 have h1 := gBa_ed a [] ha
 have h2 := gBa_ed b [] hb
 rw [h, h2] at h1
 exact (congrArg Prod.fst h1).symm
def op3 : Op := ⟨3, [], List.replicate 32 0⟩
def tb3 : Tb := ⟨3, []⟩
theorem op3_ok : OpOk op3 := ⟨by unfold UpI op3; decide, by decide, HK_zero⟩
theorem tb3_ok : TbOk tb3 := ⟨by unfold UpI tb3; decide, by decide, by intro a h; cases h⟩
theorem ba_os {b : Ba} (h : BaOk b) (hl : b.os.length ≤ 5) : BaOk { b with os := op3 :: b.os } := by
 refine ⟨h.1, h.2.1, h.2.2.1, ⟨by simp only [List.length_cons]; omega, fun a ha => ?_⟩, h.2.2.2.2⟩
 rcases List.mem_cons.1 ha with rfl | ha
 ·exact op3_ok
 ·exact h.2.2.2.1.2 a ha
theorem ba_ts {b : Ba} (h : BaOk b) (hl : b.ts.length ≤ 5) : BaOk { b with ts := tb3 :: b.ts } := by
 refine ⟨h.1, h.2.1, h.2.2.1, h.2.2.2.1, ⟨by simp only [List.length_cons]; omega, fun a ha => ?_⟩⟩
 rcases List.mem_cons.1 ha with rfl | ha
 ·exact tb3_ok
 ·exact h.2.2.2.2.2 a ha
theorem ba_ps {b : Ba} (h : BaOk b) : BaOk { b with ps := b.ps.drop 1 } :=
 ⟨h.1, h.2.1, ⟨by have := h.2.2.1.1; simp only [List.length_drop]; omega, fun a ha => h.2.2.1.2 a (List.mem_of_mem_drop ha)⟩, h.2.2.2.1, h.2.2.2.2⟩
theorem ba_tm {b : Ba} (h : BaOk b) {t : Nat} (ht : t < U64) : BaOk { b with tm := t } := ⟨h.1, ht, h.2.2.1, h.2.2.2.1, h.2.2.2.2⟩
theorem listB_cons_len {α : Type} (f : α → List Int) (a : α) (l : List α) (h : l.length ≤ 1000) : (listB f (a :: l)).length ≤ (listB f l).length + (f a).length + 10 := by
 have h2 := encI_len0 ((a :: l).length : Int) (by unfold I64; simp only [List.length_cons]; omega)
 simp only [listB, List.length_append, List.map_cons, List.flatten_cons]
 omega
theorem listB_drop_len {α : Type} (f : α → List Int) (l : List α) (h : l.length ≤ 1000) : (listB f (l.drop 1)).length ≤ (listB f l).length + 10 := by
 cases l with
 | nil => simp
 | cons a l =>
  have h2 := encI_len0 (l.length : Int) (by unfold I64; simp only [List.length_cons] at h; omega)
  simp only [listB, List.length_append, List.map_cons, List.flatten_cons, List.drop_succ_cons, List.drop_zero]
  omega
theorem op3_len : (opB op3).length ≤ 60 := by
 have h1 := encI_len0 3 (by unfold I64; decide)
 have h2 := (encN_len10 (n := 0) (by unfold U64; decide)).2
 simp only [opB, op3, List.length_append, List.length_nil, List.length_replicate]
 omega
theorem tb3_len : (tbB tb3).length ≤ 60 := by
 have h1 := encI_len0 3 (by unfold I64; decide)
 have h2 := encI_len0 0 (by unfold I64; decide)
 simp only [tbB, tb3, listB, List.length_append, List.map_nil, List.flatten_nil, List.length_nil]
 show _ + ((encI 0).length + 0) ≤ 60
 omega
theorem ba_os_len {b : Ba} (hb : (baB b).length ≤ 100000) (h : b.os.length ≤ 5) : (baB { b with os := op3 :: b.os }).length ≤ 900000 := by
 have h1 := listB_cons_len opB op3 b.os (by omega)
 have h2 := op3_len
 simp only [baB, List.length_append] at hb ⊢
 omega
theorem ba_ts_len {b : Ba} (hb : (baB b).length ≤ 100000) (h : b.ts.length ≤ 5) : (baB { b with ts := tb3 :: b.ts }).length ≤ 900000 := by
 have h1 := listB_cons_len tbB tb3 b.ts (by omega)
 have h2 := tb3_len
 simp only [baB, List.length_append] at hb ⊢
 omega
theorem ba_ps_len {b : Ba} (hb : (baB b).length ≤ 100000) (h : b.ps.length ≤ 5) : (baB { b with ps := b.ps.drop 1 }).length ≤ 900000 := by
 have h1 := listB_drop_len pmB b.ps (by omega)
 simp only [baB, List.length_append] at hb ⊢
 omega
theorem ba_tm_len {b : Ba} (hb : (baB b).length ≤ 100000) {t : Nat} (ht : t < U64) : (baB { b with tm := t }).length ≤ 900000 := by
 have h1 := (encN_len10 ht).2
 simp only [baB, List.length_append] at hb ⊢
 omega
end Go.Proofs.Ytknpapcfhnhheaa

/- Lists of lists of bytes. -/
namespace Go.Proofs.Ytknpapcfhnhheaa
open Go Go.RowKit Go.Gv Go.ChangeShapes Go.WideShapes Go.ChangeAt Go.Deep

structure Row01 where
 V : Value
 B : List Int
instance : Inhabited Row01 := ⟨⟨.slice none 0 0, []⟩⟩
def Row01.cells (a : Row01) : List Value := [a.V]
def Row01.Ok (W : World) (a : Row01) : Prop := RdR (fun k => k < W.heap.size) a.B.length W a.V a.B
/-- rows, each where it lies -/
def RdF (R : Nat → Prop) (w : World) (rs : List (Value × List Int)) : Prop := ∀ p ∈ rs, RdR R 200 w p.1 p.2
section
variable {R R' S : Nat → Prop} {w w' : World} {rs : List (Value × List Int)}
theorem RdF.mod (h : RdF R w rs) (hm : Mod S w w') (hs : ∀ k, R k → S k → False) : RdF R w' rs := fun p hp => (h p hp).mod hm hs
theorem RdF.widen (h : RdF R w rs) (hs : ∀ k, R k → R' k) : RdF R' w rs := fun p hp => (h p hp).widen hs (Nat.le_refl _)
end
theorem OwV.cell {e : TypeId} {R : Nat → Prop} {N n cap g : Nat} {w : World} {cs : List Value} (h : OwV e R N w (.slice (some ⟨g, 0, none⟩) n cap) cs) : ∀ j u, cs[j]? = some u → w.cell? ⟨g, j, none⟩ = some u := by
 intro j u hu
 have hj : j < cs.length := (List.getElem?_eq_some_iff.1 hu).1
 obtain ⟨g', e', hc⟩ := h.at hj
 simp only [Option.some.injEq, Addr.mk.injEq, and_true] at e'
 subst e'
 exact hc j u hu
end Go.Proofs.Ytknpapcfhnhheaa

/- sha.Rows, gavelref01.Rows: a hash over rows. -/
namespace Go.Proofs.Ytknpapcfhnhheaa
open Go Go.RowKit Go.Gv

theorem RdF.old {R : Nat → Prop} {w : World} {rs : List (Value × List Int)} (h : RdF R w rs) : RdF (fun k => k < w.heap.size) w rs := fun p hp => ⟨(h p hp).1, fun h0 => (h p hp).1.block_lt h0, (h p hp).2.2⟩
/-- rows: the outer list, and each row where it lies -/
structure RdRows (w : World) (v : Value) (rs : List (Value × List Int)) : Prop where
  o : Rd 1 w v rs.length (rs.map (·.1))
  f : RdF (fun k => k < w.heap.size) w rs
theorem RdRows.mod {w w' : World} {v : Value} {rs : List (Value × List Int)} {B : Nat} (h : RdRows w v rs) (hm : Mod (fun k => B ≤ k) w w') (hB : w.heap.size ≤ B) : RdRows w' v rs := by
  have h2 := h.f.mod hm (fun k h1 h2 => by omega)
  exact ⟨h.o.mod hm (fun h0 g hg hS => by have := h.o.old (by decide) h0 g hg; omega), h2.widen (fun k hk => Nat.lt_of_lt_of_le hk hm.size)⟩
theorem RdRows.still {w w' : World} {v : Value} {rs : List (Value × List Int)} (h : RdRows w v rs) (hm : Mod (fun _ => False) w w') : RdRows w' v rs := h.mod (B := w.heap.size) (hm.mono (fun _ _ h => h.elim)) (Nat.le_refl _)
theorem RdRows.shape {w : World} {v : Value} {rs : List (Value × List Int)} (h : RdRows w v rs) : ∃ ao cap, v = .slice ao rs.length cap := by
  obtain ⟨_, ao, cap, e, _⟩ := h.o
  exact ⟨ao, cap, e⟩
theorem RdRows.at {w : World} {ao : Option Addr} {n cap : Nat} {rs : List (Value × List Int)} (h : RdRows w (.slice ao n cap) rs) {i : Nat} (hi : i < rs.length) :
    ∃ g o, ao = some ⟨g, o, none⟩ ∧ g < w.heap.size ∧ w.cell? ⟨g, o + i, none⟩ = some rs[i].1 := by
  rcases h.o.form (by decide) with ⟨h0, _⟩ | ⟨g, o, cap', h0, hv, h1, h2, hl, hc⟩
  · omega
  · simp only [Value.slice.injEq] at hv
    obtain ⟨rfl, rfl, rfl⟩ := hv
    exact ⟨g, o, rfl, h.o.old (by decide) h0 g rfl, hc i _ (by simp [List.getElem?_eq_getElem hi])⟩

end Go.Proofs.Ytknpapcfhnhheaa

/- Rows that a call gathers. -/
namespace Go.Proofs.Ytknpapcfhnhheaa
open Go Go.RowKit Go.Gv

/-- gathered rows: the outer list may be appended to; each row lies beside it, in blocks from B on -/
structure RowsO (B N : Nat) (w : World) (v : Value) (rs : List (Value × List Int)) : Prop where
 o : OwV 38 (fun k => v.ownBlock = some k) N w v (rs.map (·.1))
 b : ∀ g, v.ownBlock = some g → B ≤ g
 f : RdF (fun k => k < w.heap.size ∧ v.ownBlock ≠ some k ∧ B ≤ k) w rs
theorem RowsO.nil (B : Nat) (w : World) : RowsO B 0 w (.slice none 0 0) [] := ⟨OwV.nil _ _ _, (fun g hg => by cases hg), (fun p hp => by cases hp)⟩
theorem RowsO.shape {B N : Nat} {w : World} {v : Value} {rs : List (Value × List Int)} (h : RowsO B N w v rs) : ∃ ao cap, v = .slice ao rs.length cap := by
 obtain ⟨ao, cap, e⟩ := h.o.shape
 exact ⟨ao, cap, by rw [e, List.length_map]⟩
theorem RowsO.still {B N : Nat} {w w' : World} {v : Value} {rs : List (Value × List Int)} (h : RowsO B N w v rs) (hm : Mod (fun _ => False) w w') : RowsO B N w' v rs :=
 ⟨h.o.mod hm (fun _ _ h => h), h.b, (h.f.mod hm (fun _ _ h => h)).widen (fun k hk => ⟨Nat.lt_of_lt_of_le hk.1 hm.size, hk.2⟩)⟩
theorem RowsO.mod {B N : Nat} {w w' : World} {v : Value} {rs : List (Value × List Int)} {S : Nat → Prop} (h : RowsO B N w v rs) (hm : Mod S w w') (hS : ∀ k, B ≤ k → k < w.heap.size → S k → False) : RowsO B N w' v rs :=
 ⟨h.o.mod hm (fun k h1 h2 => hS k (h.b k h1) (Own.lt h.o.1 h1) h2), h.b, (h.f.mod hm (fun k h1 h2 => hS k h1.2.2 h1.1 h2)).widen (fun k hk => ⟨Nat.lt_of_lt_of_le hk.1 hm.size, hk.2⟩)⟩
theorem RowsO.rows {B N : Nat} {w : World} {v : Value} {rs : List (Value × List Int)} (h : RowsO B N w v rs) : RdRows w v rs := ⟨by
 have := Own.rd h.o.1
 rwa [List.length_map] at this, h.f.widen (fun k hk => hk.1)⟩
/-- what was cut just now lies beside them -/
theorem RowsO.beside {B N : Nat} {w w' : World} {v u : Value} {rs : List (Value × List Int)} {bs : List Int} {n : Nat} (h : RowsO B N w v rs) (hu : OwR (New w w') n w' u bs) (hB : B ≤ w.heap.size) (hn : n ≤ 200) : RdR (fun k => k < w'.heap.size ∧ v.ownBlock ≠ some k ∧ B ≤ k) 200 w' u bs :=
 hu.rd.widen (fun k hk => ⟨hk.2, fun e => by have := Own.lt h.o.1 e; exact absurd hk.1 (by omega), Nat.le_trans hB hk.1⟩) hn
end Go.Proofs.Ytknpapcfhnhheaa

/- Rows of bytes as a kind of things: a list of them, and the rows that a call takes. -/
namespace Go.Proofs.Ytknpapcfhnhheaa
open Go Go.RowKit Go.Gv

/-- bytes as a thing: one cell -/
def BtR : Rep (List Int) where
 sz := 1
 pos := by decide
 rd R w cs a := ∃ v, cs = [v] ∧ RdR R a.length w v a
 len h := by
  obtain ⟨v, rfl, -⟩ := h
  rfl
 one h := by
  obtain ⟨v, rfl, h0⟩ := h
  obtain ⟨_, _, e⟩ := h0.shape
  subst e
  intro u hu
  simp only [List.mem_cons, List.not_mem_nil, or_false] at hu
  subst hu
  rfl
 keep h hk := by
  obtain ⟨v, rfl, h0⟩ := h
  exact ⟨_, rfl, RdR_keep h0 hk⟩
 wid h hs := by
  obtain ⟨v, rfl, h0⟩ := h
  exact ⟨_, rfl, h0.widen hs (Nat.le_refl _)⟩
 tight h := by
  obtain ⟨v, rfl, h0⟩ := h
  exact ⟨_, rfl, RdR_tight h0⟩
theorem BtR.mk {R : Nat → Prop} {N : Nat} {w : World} {v : Value} {bs : List Int} (h : RdR R N w v bs) : BtR.rd R w [v] bs := ⟨v, rfl, h.1, h.2.1, Nat.le_refl _⟩
section
variable {ops : Array Oper} {i : Nat} {o : Oper} {a : Act} {w : World}
end
/-- a slice from its i-th byte on -/
def frV (ao : Option Addr) (n cap i : Nat) : Value := .slice (if cap = i then ao else ao.map fun x => x.add i) (n - i) (cap - i)
theorem RdR.from {R : Nat → Prop} {N : Nat} {w : World} {ao : Option Addr} {n cap : Nat} {bs : List Int} (h : RdR R N w (.slice ao n cap) bs) (i : Nat) (hi : i ≤ bs.length) : RdR R N w (frV ao n cap i) (bs.drop i) := by
 have hl := h.1.len
 obtain rfl := hl.1
 refine ⟨?_, fun h0 g hg => ?_, by have := h.2.2; simp; omega⟩
 ·unfold frV
  split
  ·rename_i e
   have := RdB.tail_at h.1 i hi e
   rwa [show cap - i = 0 by omega]
  ·rename_i e
   exact RdB.tail_in h.1 i hi e
 ·have hpos : 0 < bs.length := by simp at h0; omega
  refine h.2.1 hpos g ?_
  unfold frV at hg
  cases ao with
  | none => split at hg <;> cases hg
  | some x =>
   split at hg
   ·exact hg
   ·have hb : (x.add i).block = x.block := by unfold Addr.add; split <;> rfl
    simp only [Option.map_some, Value.ownBlock] at hg ⊢
    rw [← hb]
    exact hg
section
variable {ops : Array Oper} {Q : Exit → Act → World → Prop} {i : Nat} {o : Oper} {a : Act} {w : World}
end
end Go.Proofs.Ytknpapcfhnhheaa

/- Slices of things: one thing in a block of its own, to be appended to; a slice from its k-th thing on. No program here. -/
namespace Go.Gv
open Go Go.RowKit

section
variable {α : Type} {A : Rep α} {e : TypeId} {R E : Nat → Prop} {w : World} {l : List α}
theorem OwS.single {g : Nat} {cs : List Value} {a : α} (hc : Cs w g cs.toArray e) (ha : A.rd (fun k => E k ∧ g ≠ k) w cs a) (hg : R g) : OwS A e R E w (.slice (some ⟨g, 0, none⟩) 1 1) [a] := by
  refine ⟨[cs], rfl, fun i c b hi hb => ?_, ?_, fun g' hg' => by cases hg'; exact hg⟩
  · cases i with
    | zero =>
      simp at hi hb; subst hi hb
      exact A.wid ha fun k hk => ⟨hk.1, fun e => hk.2 (by cases e; rfl)⟩
    | succ i => simp at hi
  · have hl := A.len ha
    have h1 := A.one ha
    refine ⟨by simp [hl], by simpa using h1, .inr ⟨g, 1, cs.toArray, rfl, hc, Nat.le_refl _, by rw [maxLen_val]; omega, by simp [hl], ?_, by simpa using h1⟩⟩
    simp only [List.flatten_cons, List.flatten_nil, List.append_nil, List.length_cons, List.length_nil]
    rw [List.take_of_length_le (by simp [hl])]
/-- a slice from its k-th thing on -/
def frS (sz : Nat) (ao : Option Addr) (n cap i : Nat) : Value := .slice (if cap = i then ao else ao.map fun x => x.add (i * sz)) (n - i) (cap - i)
theorem ex_sliceFromS {P : Program} {o : Oper} {a : Act} {w : World} {T e : TypeId} {x y : Operand} {ao : Option Addr} {n cap i s : Nat} {k : IntKind} (ho : o.op = .slice T x (some y) none none) (hu : P.underlying T = some (.slice e)) (hs : (P.info? e).map (·.size) = some s) (hx : a.eval x = .slice ao n cap) (hy : a.eval y = .int k (i : Int)) (hi : i ≤ n) (hc : n ≤ cap) :
    (execOp a.eval o).run P w = .ok (.value (frS s ao n cap i)) w := by
  have hsz : (sizeOf e).run P w = .ok s w := by
    cases hq : P.info? e with
    | none => rw [hq] at hs; cases hs
    | some i => rw [hq] at hs; simp [sizeOf, typeInfo, hq]; exact Option.some.inj hs
  have hi2 : i ≤ cap := Nat.le_trans hi hc
  unfold execOp frS
  by_cases h : cap = i
  · subst h
    simp [ho, hx, hy, Instr.sliceAt, Instr.slice, Instr.sliceBounds, Instr.sliceBound, asIntOf, run_underlying hu, hsz, hi, hc]
  · have h2 : ¬ cap - i = 0 := by omega
    simp [ho, hx, hy, Instr.sliceAt, Instr.slice, Instr.sliceBounds, Instr.sliceBound, asIntOf, run_underlying hu, hsz, hi, hc, h, h2]
theorem RdS.from {ao : Option Addr} {n cap : Nat} (h : RdS A R w (.slice ao n cap) l) (k : Nat) (hk : k ≤ l.length) (h0 : 0 < l.length) : RdS A R w (frS A.sz ao n cap k) (l.drop k) := by
  obtain ⟨css, h1, h2, h3, h4⟩ := h
  have hcl := css_len h1 h2 (fun cs a h => A.len h)
  rcases h3.form A.pos with ⟨hz, _⟩ | ⟨g, o, cap', hp, e, g1, g2, g3, g4⟩
  · omega
  · simp only [Value.slice.injEq] at e
    obtain ⟨rfl, rfl, rfl⟩ := e
    have ef : (css.drop k).flatten = css.flatten.drop (k * A.sz) := by
      have h5 : css.flatten = (css.take k).flatten ++ (css.drop k).flatten := by rw [← List.flatten_append, List.take_append_drop]
      have h6 : (css.take k).flatten.length = k * A.sz := by rw [flat_len (fun x hx => hcl x (List.mem_of_mem_take hx))]; congr 1; simp; omega
      rw [h5, ← h6, List.drop_left]
    refine ⟨css.drop k, by simp; omega, fun i cs a hi ha => ?_, ?_, fun _ g' hg' => ?_⟩
    · rw [List.getElem?_drop] at hi ha
      exact h2 _ cs a hi ha
    · unfold frS
      rw [List.length_drop]
      split
      · rename_i ec
        have e1 : css.drop k = [] := List.drop_eq_nil_of_le (by omega)
        rw [e1, show l.length - k = 0 by omega, show cap - k = 0 by omega]
        exact Rd.mk (Nat.le_refl _) (by omega) (by simp) fun j u hu => by simp at hu
      · rename_i ec
        rw [ef, show (some (⟨g, o, none⟩ : Addr)).map (fun x => x.add (k * A.sz)) = some ⟨g, o + k * A.sz, none⟩ from congrArg some (add_mk _ _ _)]
        refine Rd.mk (by omega) (by omega) (by rw [List.length_drop, g3, Nat.sub_mul]) fun j u hu => ?_
        rw [List.getElem?_drop] at hu
        rw [Nat.add_assoc]
        exact g4 _ _ hu
    · have : g' = g := by
        unfold frS at hg'
        split at hg'
        · cases hg'; rfl
        · simp only [Option.map_some, add_mk, Value.ownBlock] at hg'
          cases hg'; rfl
      subst this
      exact h4 (by omega) _ rfl
end
end Go.Gv

/- Equality of commitments, names and signatures. -/
namespace Go.Proofs.Ytknpapcfhnhheaa
open Go Go.RowKit Go.Gv
theorem size_run {P : Program} {T : TypeId} {n : Nat} (h : (P.info? T).map (·.size) = some n) (w : World) : (sizeOf T).run P w = .ok n w := by
 cases hq : P.info? T with
 | none => rw [hq] at h; cases h
 | some i => rw [hq] at h; simp [sizeOf, typeInfo, hq]; exact Option.some.inj h
theorem part_agg {P : Program} {T : TypeId} {n : Nat} {d : TypeDesc} (hu : P.underlying T = some d) (hd : aggDesc d = true) (h : (P.info? T).map (·.size) = some n) (cs : Array Value) (off : Nat) (w : World) : (part T cs off).run P w = .ok (.agg (cs.extract off (off + n))) w := by
 have hagg : (isAgg T).run P w = .ok true w := by
  unfold isAgg
  rw [Sem.run_bind, run_underlying hu w]
  cases d <;> simp_all [aggDesc]
 simp [part, hagg, size_run h]
theorem part_one {P : Program} {T : TypeId} {d : TypeDesc} (hu : P.underlying T = some d) (hd : aggDesc d = false) {cs : Array Value} {off : Nat} {v : Value} (hv : cs[off]? = some v) (w : World) : (part T cs off).run P w = .ok v w := by
 have hagg : (isAgg T).run P w = .ok false w := by
  unfold isAgg
  rw [Sem.run_bind, run_underlying hu w]
  cases d <;> simp_all [aggDesc]
 simp [part, hagg, hv]
end Go.Proofs.Ytknpapcfhnhheaa

/- Equality of flat things (all cells are ints): they are equal where their cells are. -/
namespace Go.Proofs.Ytknpapcfhnhheaa
open Go Go.RowKit Go.Gv

/-- cells that are ints of these kinds -/
def KI : List IntKind → List Value → Prop
  | [], [] => True
  | k :: ks, v :: vs => (∃ a, v = .int k a) ∧ KI ks vs
  | _, _ => False
theorem KI.len : ∀ {ks : List IntKind} {vs : List Value}, KI ks vs → vs.length = ks.length
  | [], [], _ => rfl
  | k :: ks, v :: vs, h => by simp [KI.len h.2]
  | [], v :: vs, h => h.elim
  | k :: ks, [], h => h.elim
theorem KI.append : ∀ {ks ks' : List IntKind} {a b : List Value}, KI ks a → KI ks' b → KI (ks ++ ks') (a ++ b)
  | [], ks', [], b, _, h => h
  | k :: ks, ks', v :: vs, b, h, h' => ⟨h.1, KI.append h.2 h'⟩
  | [], _, v :: vs, _, h, _ => h.elim
  | k :: ks, _, [], _, h, _ => h.elim
theorem KI.split : ∀ {ks ks' : List IntKind} {vs : List Value}, KI (ks ++ ks') vs → ∃ a b, vs = a ++ b ∧ KI ks a ∧ KI ks' b
  | [], ks', vs, h => ⟨[], vs, rfl, trivial, h⟩
  | k :: ks, ks', v :: vs, h => by
    obtain ⟨a, b, rfl, h1, h2⟩ := KI.split h.2
    exact ⟨v :: a, b, rfl, ⟨h.1, h1⟩, h2⟩
  | k :: ks, _, [], h => h.elim
theorem KI.ints {k : IntKind} : ∀ {n : Nat} {h : List Int}, h.length = n → KI (List.replicate n k) (h.map (Value.int k))
  | 0, [], _ => trivial
  | n + 1, a :: h, e => ⟨⟨a, rfl⟩, KI.ints (by simpa using e)⟩
theorem KI.rep {k : IntKind} : ∀ {n : Nat} {vs : List Value}, KI (List.replicate n k) vs → ∃ h : List Int, h.length = n ∧ vs = h.map (Value.int k)
  | 0, [], _ => ⟨[], rfl, rfl⟩
  | 0, v :: vs, h => h.elim
  | n + 1, [], h => h.elim
  | n + 1, v :: vs, h => by
    obtain ⟨a, rfl⟩ := h.1
    obtain ⟨l, e, rfl⟩ := KI.rep h.2
    exact ⟨a :: l, by simp [e], rfl⟩
def EqW (P : Program) (d : Nat) (T : TypeId) (ks : List IntKind) : Prop := ∀ (xs ys : List Value) (c : Bool) (w : World), KI ks xs → KI ks ys → (c = true ↔ xs = ys) → (Op.equalIn d T (.agg xs.toArray) (.agg ys.toArray)).run P w = .ok c w
def EqT (P : Program) (d : Nat) (T : TypeId) (ks : List IntKind) : Prop := ∀ (A B : List Value) (off : Nat) (xs ys : List Value) (c : Bool) (w : World), KI ks xs → KI ks ys → (c = true ↔ xs = ys) → (A.drop off).take ks.length = xs → (B.drop off).take ks.length = ys →
  ∃ x y, (part T A.toArray off).run P w = .ok x w ∧ (part T B.toArray off).run P w = .ok y w ∧ (Op.equalIn d T x y).run P w = .ok c w
theorem ex_bool (p : Prop) : ∃ c : Bool, (c = true ↔ p) := by
  rcases Classical.em p with h | h
  · exact ⟨true, by simp [h]⟩
  · exact ⟨false, by simp [h]⟩
theorem bool_of {c d : Bool} (h : c = true ↔ d = true) : c = d := by cases c <;> cases d <;> simp_all
variable {P : Program}
theorem drop_one {A : List Value} {off : Nat} {v : Value} (h : (A.drop off).take 1 = [v]) : A.toArray[off]? = some v := by
  have h1 : ((A.drop off).take 1)[0]? = some v := by rw [h]; rfl
  rw [List.getElem?_take, List.getElem?_drop] at h1
  simpa using h1
theorem EqT.int {d : Nat} {T : TypeId} {k : IntKind} (hu : P.underlying T = some (.int k)) : EqT P (d + 1) T [k] := by
  intro A B off xs ys c w hx hy hc ha hb
  match xs, ys, hx, hy with
  | [x], [y], ⟨⟨a, e⟩, _⟩, ⟨⟨b, e'⟩, _⟩ =>
    subst e e'
    refine ⟨_, _, part_one hu rfl (drop_one ha) w, part_one hu rfl (drop_one hb) w, ?_⟩
    rw [run_equalIn_int w d T k k a b hu, show (a == b) = c from bool_of (by rw [hc]; simp)]
theorem EqT.agg {d : Nat} {T : TypeId} {ks : List IntKind} {de : TypeDesc} (h : EqW P d T ks) (hu : P.underlying T = some de) (hd : aggDesc de = true) (hs : (P.info? T).map (·.size) = some ks.length) : EqT P d T ks := by
  intro A B off xs ys c w hx hy hc ha hb
  have e : ∀ (A : List Value), A.toArray.extract off (off + ks.length) = ((A.drop off).take ks.length).toArray := fun A => by
    apply Array.ext'
    simp [List.extract_eq_take_drop, Nat.add_sub_cancel_left]
  have p1 := part_agg hu hd hs A.toArray off w
  have p2 := part_agg hu hd hs B.toArray off w
  rw [e, ha] at p1
  rw [e, hb] at p2
  exact ⟨_, _, p1, p2, h xs ys c w hx hy hc⟩
theorem EqW.ints {d : Nat} {T e : TypeId} {n : Nat} {k : IntKind} (ht : P.underlying T = some (.array n e)) (he : P.underlying e = some (.int k)) (hs : (P.info? e).map (·.size) = some 1) : EqW P (d + 2) T (List.replicate n k) := by
  intro xs ys c w hx hy hc
  obtain ⟨a, ha, rfl⟩ := hx.rep
  obtain ⟨b, hb, rfl⟩ := hy.rep
  rw [run_equalIn_ints w d T e n ht he hs a b ha hb]
  rw [show decide (a = b) = c from bool_of (by
    rw [hc, decide_eq_true_iff]
    exact ⟨fun h => by rw [h], fun h => (List.map_inj_right (fun x y h => by injection h)).1 h⟩)]
def FsE (P : Program) (d : Nat) : Nat → List Field → List (List IntKind) → Prop
  | _, [], [] => True
  | off, f :: fs, ks :: l => f.name ≠ "_" ∧ f.offset = off ∧ EqT P d f.type ks ∧ FsE P d (off + ks.length) fs l
  | _, _, _ => False
theorem eqFields_all {d : Nat} : ∀ (fs : List Field) (l : List (List IntKind)) (pre pre' xs ys : List Value) (c : Bool) (w : World), FsE P d pre.length fs l → pre'.length = pre.length → KI l.flatten xs → KI l.flatten ys → (c = true ↔ xs = ys) →
    (Op.eqFields d (pre ++ xs).toArray (pre' ++ ys).toArray fs).run P w = .ok c w
  | [], [], pre, pre', xs, ys, c, w, _, _, hx, hy, hc => by
    match xs, ys, hx, hy, hc with
    | [], [], _, _, hc => obtain rfl : c = true := hc.2 rfl; simp [Op.eqFields]
  | [], _ :: _, _, _, _, _, _, _, h, _, _, _, _ => h.elim
  | _ :: _, [], _, _, _, _, _, _, h, _, _, _, _ => h.elim
  | f :: fs, ks :: l, pre, pre', xs, ys, c, w, ⟨h1, h2, h3, h4⟩, hp, hx, hy, hc => by
    obtain ⟨a, b, rfl, ha, hb⟩ := KI.split (by simpa using hx)
    obtain ⟨a', b', rfl, ha', hb'⟩ := KI.split (by simpa using hy)
    have la := ha.len
    have la' := ha'.len
    obtain ⟨c1, hc1⟩ := ex_bool (a = a')
    obtain ⟨c2, hc2⟩ := ex_bool (b = b')
    obtain ⟨x, y, p1, p2, q⟩ := h3 (pre ++ (a ++ b)) (pre' ++ (a' ++ b')) pre.length a a' c1 w ha ha' hc1 (by rw [List.drop_left, ← la, List.take_left]) (by rw [← hp, List.drop_left, ← la', List.take_left])
    have ih := eqFields_all fs l (pre ++ a) (pre' ++ a') b b' c2 w (by rw [List.length_append, la]; exact h4) (by rw [List.length_append, List.length_append, hp, la, la']) hb hb' hc2
    rw [List.append_assoc, List.append_assoc] at ih
    unfold Op.eqFields
    rw [if_pos h1, h2]
    simp only [Sem.run_bind, p1, p2, q, Result.andThen_ok]
    have hcc : c = (c1 && c2) := bool_of (by
      rw [hc, Bool.and_eq_true, hc1, hc2]
      exact ⟨fun h => List.append_inj h (by rw [la, la']), fun h => by rw [h.1, h.2]⟩)
    subst hcc
    cases c1
    · simp
    · simp [ih]
theorem EqW.struct {d : Nat} {T : TypeId} {fs : Array Field} (l : List (List IntKind)) (hu : P.underlying T = some (.struct fs)) (hs : P.stoodInHeld T = false) (hl : FsE P d 0 fs.toList l) : EqW P (d + 1) T l.flatten := by
  intro xs ys c w hx hy hc
  have hf : P.fieldsOf T = fs := by unfold Program.fieldsOf; rw [hu]
  rw [run_equalIn_struct w d T xs.toArray ys.toArray (by rw [hf]; exact hu) hs, hf]
  exact eqFields_all fs.toList l [] [] xs ys c w hl rfl hx hy hc
theorem EqW.run {T : TypeId} {ks : List IntKind} (h : EqW P 10000 T ks) {xs ys : List Value} (hx : KI ks xs) (hy : KI ks ys) {c : Bool} (hc : c = true ↔ xs = ys) (w : World) : (binOp .eql T (.agg xs.toArray) (.agg ys.toArray)).run P w = .ok (.bool (c)) w := by
  rw [run_eql_struct, h xs ys c w hx hy hc]
  rfl
theorem EqW.runN {T : TypeId} {ks : List IntKind} (h : EqW P 10000 T ks) {xs ys : List Value} (hx : KI ks xs) (hy : KI ks ys) {c : Bool} (hc : c = true ↔ xs = ys) (w : World) : (binOp .neq T (.agg xs.toArray) (.agg ys.toArray)).run P w = .ok (.bool (!c)) w := by
  rw [run_neq_struct, h xs ys c w hx hy hc]
  rfl
abbrev kHash : List IntKind := List.replicate 32 .u8
theorem eqT_int {d : Nat} : EqT Try.prog (d + 1) 3 [.i64] := EqT.int Try.underlying3
theorem eqT_u64 {d : Nat} : EqT Try.prog (d + 1) 26 [.u64] := EqT.int Try.underlying26
theorem eqT_hash {d : Nat} : EqT Try.prog (d + 2) 25 kHash := EqT.agg (EqW.ints Try.underlying25 Try.underlying5 (by kernel_rfl)) Try.underlying25 rfl (by kernel_rfl)
theorem eqW_name {d : Nat} : EqW Try.prog (d + 2) 23 [.i64, .i64] := EqW.struct [[.i64], [.i64]] Try.underlying23 (by kernel_rfl) ⟨by decide, rfl, eqT_int, by decide, rfl, eqT_int, trivial⟩
theorem eqT_name {d : Nat} : EqT Try.prog (d + 2) 23 [.i64, .i64] := EqT.agg eqW_name Try.underlying23 rfl (by kernel_rfl)
theorem eqW_sig {d : Nat} : EqW Try.prog (d + 2) 28 [.i64, .i64] := EqW.struct [[.i64], [.i64]] Try.underlying28 (by kernel_rfl) ⟨by decide, rfl, eqT_int, by decide, rfl, eqT_int, trivial⟩
theorem eqT_sig {d : Nat} : EqT Try.prog (d + 2) 28 [.i64, .i64] := EqT.agg eqW_sig Try.underlying28 rfl (by kernel_rfl)
theorem eqW_stamp {d : Nat} : EqW Try.prog (d + 3) 30 [[.i64], [.i64, .i64], kHash, [.u64], [.i64, .i64]].flatten :=
  EqW.struct [[.i64], [.i64, .i64], kHash, [.u64], [.i64, .i64]] Try.underlying30 (by kernel_rfl) ⟨by decide, rfl, eqT_int, by decide, rfl, eqT_name, by decide, rfl, eqT_hash, by decide, rfl, eqT_u64, by decide, rfl, eqT_sig, trivial⟩
theorem eqW_deny {d : Nat} : EqW Try.prog (d + 3) 34 [[.i64], [.i64], [.i64, .i64]].flatten :=
  EqW.struct [[.i64], [.i64], [.i64, .i64]] Try.underlying34 (by kernel_rfl) ⟨by decide, rfl, eqT_int, by decide, rfl, eqT_int, by decide, rfl, eqT_sig, trivial⟩
theorem eqW_commit {d : Nat} : EqW Try.prog (d + 3) 49 [[.i64, .i64], kHash, [.i64], [.i64, .i64]].flatten :=
  EqW.struct [[.i64, .i64], kHash, [.i64], [.i64, .i64]] Try.underlying49 (by kernel_rfl) ⟨by decide, rfl, eqT_name, by decide, rfl, eqT_hash, by decide, rfl, eqT_int, by decide, rfl, eqT_sig, trivial⟩
theorem ki_hash {h : List Int} (e : h.length = 32) : KI kHash (h.map bv) := KI.ints e
theorem ki_st {x : St} (h : x.OK) : KI [[.i64], [.i64, .i64], kHash, [.u64], [.i64, .i64]].flatten x.cells := by
  have := KI.append (ks := [.i64, .i64, .i64]) (a := [.int .i64 x.rp, .int .i64 x.cl, .int .i64 x.sq]) ⟨⟨_, rfl⟩, ⟨_, rfl⟩, ⟨_, rfl⟩, trivial⟩ (KI.append (ki_hash h.h.1) (ks' := [.u64, .i64, .i64]) (b := [.int .u64 (x.tm : Nat), .int .i64 x.sb, .int .i64 x.mr]) ⟨⟨_, rfl⟩, ⟨_, rfl⟩, ⟨_, rfl⟩, trivial⟩)
  exact this
theorem ki_dn (x : Dn) : KI [[.i64], [.i64], [.i64, .i64]].flatten x.cells := ⟨⟨_, rfl⟩, ⟨_, rfl⟩, ⟨_, rfl⟩, ⟨_, rfl⟩, trivial⟩
theorem ki_cm {x : Cm} (h : x.h.length = 32) : KI [[.i64, .i64], kHash, [.i64], [.i64, .i64]].flatten x.cells := by
  have := KI.append (ks := [.i64, .i64]) (a := [.int .i64 x.cl, .int .i64 x.sq]) ⟨⟨_, rfl⟩, ⟨_, rfl⟩, trivial⟩ (KI.append (ki_hash h) (ks' := [.i64, .i64, .i64]) (b := [.int .i64 x.ln, .int .i64 x.sb, .int .i64 x.mr]) ⟨⟨_, rfl⟩, ⟨_, rfl⟩, ⟨_, rfl⟩, trivial⟩)
  exact this
end Go.Proofs.Ytknpapcfhnhheaa

/- Whether two things are one, in plain words. -/
namespace Go.Proofs.Ytknpapcfhnhheaa
open Go Go.RowKit Go.Gv


noncomputable def eqb {α : Type} (x y : α) : Bool := @decide (x = y) (Classical.propDecidable _)
theorem eqb_iff {α : Type} {x y : α} : eqb x y = true ↔ x = y := by unfold eqb; exact @decide_eq_true_iff _ (Classical.propDecidable _)
theorem eqb_rfl {α : Type} (x : α) : eqb x x = true := eqb_iff.2 rfl
theorem eqb_ne {α : Type} {x y : α} (h : ¬ x = y) : eqb x y = false := by
  cases hq : eqb x y with
  | false => rfl
  | true => exact absurd (eqb_iff.1 hq) h
theorem ne_tt {a b : Int} (h : a ≠ b) : (!(a == b)) = true := by simp [h]
theorem ne_ff {a b : Int} (h : a = b) : (!(a == b)) = false := by simp [h]
theorem dec_eqb {α : Type} (x y : α) [h : Decidable (x = y)] : decide (x = y) = eqb x y := by
  rw [Bool.eq_iff_iff, eqb_iff, decide_eq_true_iff]
theorem agg_guardE (op : BinOp) (T : TypeId) (x y : Operand) (a b : Array Value) (h : Try.prog.eqGuardType Try.prog.depth T = false) (w : World) : (eqGuard op T x y (.agg a) (.agg b)).run Try.prog w = .ok () w := run_eqGuard_agg (P := Try.prog) w op T x y a b h
theorem hash_inj {a b : List Int} (h : a.map bv = b.map bv) : a = b := (List.map_inj_right (fun a b e => by injection e)).1 h
theorem ki_2 (a b : Int) : KI [.i64, .i64] [Value.int .i64 a, Value.int .i64 b] := ⟨⟨_, rfl⟩, ⟨_, rfl⟩, trivial⟩
theorem two_iff (a b c d : Int) : eqb (a, b) (c, d) = true ↔ ([Value.int .i64 a, Value.int .i64 b] = [Value.int .i64 c, Value.int .i64 d]) := by
  rw [eqb_iff]
  simp
theorem st_iff {x y : St} (hx : x.OK) (hy : y.OK) : eqb x y = true ↔ x.cells = y.cells := by
  rw [eqb_iff]
  refine ⟨fun h => by rw [h], fun h => ?_⟩
  have h1 := List.append_inj h rfl
  have h2 := List.append_inj h1.2 (by simp [hx.h.1, hy.h.1])
  have h3 := hash_inj h2.1
  have h4 := h1.1
  have h5 := h2.2
  simp only [List.cons.injEq, Value.int.injEq, and_true, true_and, Int.ofNat_inj] at h4 h5
  cases x; cases y
  simp_all
theorem cm_iff {x y : Cm} (hx : x.OK) (hy : y.OK) : eqb x y = true ↔ x.cells = y.cells := by
  rw [eqb_iff]
  refine ⟨fun h => by rw [h], fun h => ?_⟩
  have h1 := List.append_inj h rfl
  have h2 := List.append_inj h1.2 (by simp [hx.2.1, hy.2.1])
  have h3 := hash_inj h2.1
  have h4 := h1.1
  have h5 := h2.2
  simp only [List.cons.injEq, Value.int.injEq, and_true, true_and, Int.ofNat_inj] at h4 h5
  cases x; cases y
  simp_all
theorem dn_iff {x y : Dn} (hx : x.OK) (hy : y.OK) : eqb x y = true ↔ x.cells = y.cells := by
  rw [eqb_iff]
  refine ⟨fun h => by rw [h], fun h => ?_⟩
  simp only [Dn.cells, List.cons.injEq, Value.int.injEq, and_true, true_and] at h
  cases x; cases y
  simp_all
theorem ce_eqb (x y : Ce) : (eqb x.c y.c && eqb x.l y.l) = eqb x y := by
  rw [Bool.eq_iff_iff, Bool.and_eq_true, eqb_iff, eqb_iff, eqb_iff]
  cases x; cases y
  simp
theorem beq_I (a b : Int) : (a == b) = true ↔ a = b := by simp
theorem pm_eqb (x y : Pm) : (((((x.rp == y.rp) && (x.ep == y.ep)) && (((x.fl : Nat) : Int) == ((y.fl : Nat) : Int))) && eqb (x.sb, x.mr) (y.sb, y.mr)) && eqb x.l y.l) = eqb x y := by
  rw [Bool.eq_iff_iff]
  simp only [Bool.and_eq_true, eqb_iff, beq_I, Int.ofNat_inj, Prod.mk.injEq]
  cases x; cases y
  simp only [Pm.mk.injEq]
  constructor
  · rintro ⟨⟨⟨⟨h1, h2⟩, h3⟩, h4, h5⟩, h6⟩; exact ⟨h1, h2, h3, h6, h4, h5⟩
  · rintro ⟨h1, h2, h3, h6, h4, h5⟩; exact ⟨⟨⟨⟨h1, h2⟩, h3⟩, h4, h5⟩, h6⟩
theorem op_eqb (x y : Op) : (((x.ix == y.ix) && eqb x.nc y.nc) && eqb x.pl y.pl) = eqb x y := by
  rw [Bool.eq_iff_iff]
  simp only [Bool.and_eq_true, eqb_iff, beq_I]
  cases x; cases y
  simp only [Op.mk.injEq]
  constructor
  · rintro ⟨⟨h1, h2⟩, h3⟩; exact ⟨h1, h3, h2⟩
  · rintro ⟨h1, h3, h2⟩; exact ⟨⟨h1, h2⟩, h3⟩
theorem tb_eqb (x y : Tb) : ((!(x.ix == y.ix)) || (!eqb x.l y.l)) = !eqb x y := by
  have h : ((x.ix == y.ix) && eqb x.l y.l) = eqb x y := by
    rw [Bool.eq_iff_iff]
    simp only [Bool.and_eq_true, eqb_iff, beq_I]
    cases x; cases y
    simp
  rw [← h]
  cases (x.ix == y.ix) <;> cases eqb x.l y.l <;> rfl
theorem ba_eqb (x y : Ba) (h : (((((!(x.ep == y.ep)) || (!(((x.tm : Nat) : Int) == ((y.tm : Nat) : Int)))) || (!(((x.ps.length : Nat) : Int) == ((y.ps.length : Nat) : Int)))) || (!eqb x.os y.os)) || (!eqb x.ts y.ts)) = false) : eqb x.ps y.ps = eqb x y := by
  simp only [Bool.or_eq_false_iff, Bool.not_eq_false', eqb_iff, beq_I, Int.ofNat_inj] at h
  obtain ⟨⟨⟨⟨h1, h2⟩, h3⟩, h4⟩, h5⟩ := h
  rw [Bool.eq_iff_iff, eqb_iff, eqb_iff]
  cases x; cases y
  simp_all
theorem ba_neb (x y : Ba) (h : (((((!(x.ep == y.ep)) || (!(((x.tm : Nat) : Int) == ((y.tm : Nat) : Int)))) || (!(((x.ps.length : Nat) : Int) == ((y.ps.length : Nat) : Int)))) || (!eqb x.os y.os)) || (!eqb x.ts y.ts)) = true) : eqb x y = false := by
  refine eqb_ne fun e => ?_
  subst e
  simp [eqb_rfl] at h
theorem take_ne {α : Type} {l m : List α} {k : Nat} (h1 : k < l.length) (h2 : k < m.length) (h : ¬ l[k] = m[k]) : eqb l m = false := eqb_ne fun e => h (by subst e; rfl)
theorem take_all {α : Type} {l m : List α} {k : Nat} (h1 : l.length ≤ k) (h2 : m.length ≤ k) (h : l.take k = m.take k) : eqb l m = true := by
  rw [List.take_of_length_le h1, List.take_of_length_le h2] at h
  exact eqb_iff.2 h
theorem take_succ2 {α : Type} {l m : List α} {k : Nat} (h1 : k < l.length) (h2 : k < m.length) (h : l.take k = m.take k) (he : l[k] = m[k]) : l.take (k + 1) = m.take (k + 1) := by
  rw [List.take_succ_eq_append_getElem h1, List.take_succ_eq_append_getElem h2, h, he]
/-- a function that says whether two things are one; two lists -/
def Eqs {α : Type} (A : Rep α) (F : FuncId) : Prop := ∀ (R R2 : Nat → Prop) (cs ds : List Value) (x y : α) (w : World), A.rd R w cs x → A.rd R2 w ds y → (∀ k, R k → k < w.heap.size) → (∀ k, R2 k → k < w.heap.size) →
  Calls Try.prog F #[.agg cs.toArray, .agg ds.toArray] w fun e w' => e = .returned (.bool (eqb x y)) ∧ Mod (fun _ => False) w w'
def EqsL {α : Type} (A : Rep α) (F : FuncId) : Prop := ∀ (R R2 : Nat → Prop) (v v2 : Value) (l m : List α) (w : World), RdS A R w v l → RdS A R2 w v2 m → (∀ k, R k → k < w.heap.size) → (∀ k, R2 k → k < w.heap.size) →
  Calls Try.prog F #[v, v2] w fun e w' => e = .returned (.bool (eqb l m)) ∧ Mod (fun _ => False) w w'
theorem Same_B {R R2 : Nat → Prop} {N N2 : Nat} {va vb : Value} {a b : List Int} {w : World} (ha : RdR R N w va a) (hb : RdR R2 N2 w vb b) :
    Calls Try.prog 18 #[va, vb] w fun e w' => e = .returned (.bool (eqb a b)) ∧ Mod (fun _ => False) w w' :=
  (Same_R ha hb).mono fun _ _ ⟨he, hm⟩ => ⟨he.trans (by rw [dec_eqb]), hm⟩
end Go.Proofs.Ytknpapcfhnhheaa

/- gavelkeep: comparisons of lists, certificates, promises, openings. -/
namespace Go.Proofs.Ytknpapcfhnhheaa
open Go Go.RowKit Go.Gv

set_option maxHeartbeats 4000000 in
theorem EqL_St : EqsL StR 79 := by
 intro R R2 v v2 l m w hs ht hB hB2
 obtain ⟨ao, cap, rfl⟩ := hs.shape
 obtain ⟨bo, bcap, rfl⟩ := ht.shape
 have hlm : l.length ≤ maxLen := hs.bd
 rw [maxLen_val] at hlm
 have HS := Lib.hid hs
 have HT := Lib.hid ht
 have HBR := Lib.hid hB
 have HBT := Lib.hid hB2
 clear hs ht hB hB2
 go_enter Try.func79, Try.ntmps79
 go_upto_region 1 with (fail)
 have HM0 := hid (Mod.refl (fun _ => False) w)
 by_cases hl : l.length = m.length
 rotate_left
 ·skip
  go_upto_region 1 with (fail)
  refine wp_region_U 26 [6, 7, 8, 9, 10] [0, 1, 2, 3, 4] (fun a0 HA0 => ?_)
  have oe0 := ev HA0 0 rfl
  have oe1 := ev HA0 1 rfl
  refine QSeq.pure rfl _ (fun E => ex_move rfl (E.v oe0)) ?_
  refine QSeq.pure rfl (.int .i64 l.length) (fun E => ex_lenS rfl (E.d 0 0) Try.underlying50) ?_
  refine QSeq.pure rfl _ (fun E => ex_move rfl (E.v oe1)) ?_
  refine QSeq.pure rfl (.int .i64 m.length) (fun E => ex_lenS rfl (E.d 2 0) Try.underlying50) ?_
  refine QSeq.pure rfl (.bool true) (fun E => ex_binE rfl (E.d 1 2) (E.d 3 0) (guard_ints _ _ _ _ _ _) (run_neq_i _ _ _ Try.underlying3) (congrArg Value.bool (ne_tt (by omega)))) ?_
  refine QSeq.nil (t' := [_, _, _, _, _]) rfl ?_
  obtain rfl := HA0.out
  clear HA0 oe0 oe1
  simp only [pz, Act.put, List.setIfInBounds_toArray, List.set_cons_zero, List.set_cons_succ]
  go_upto_region 2 with (fail)
  refine wp_region_U 26 [4] [0] (fun a0 HA0 => ?_)
  refine QSeq.pure rfl (.bool false) (fun E => ex_assign rfl rfl) ?_
  refine QSeq.nil (t' := [_]) rfl ?_
  obtain rfl := HA0.out
  clear HA0
  simp only [pz, Act.put, List.setIfInBounds_toArray, List.set_cons_zero, List.set_cons_succ]
  go_wp2
  go_ret
  exact ⟨ret_bool (eqb_ne fun e => hl (by rw [e])).symm, HM0.out⟩
 ·skip
  go_upto_region 1 with (fail)
  refine wp_region_U 26 [6, 7, 8, 9, 10] [0, 1, 2, 3, 4] (fun a0 HA0 => ?_)
  have oe0 := ev HA0 0 rfl
  have oe1 := ev HA0 1 rfl
  refine QSeq.pure rfl _ (fun E => ex_move rfl (E.v oe0)) ?_
  refine QSeq.pure rfl (.int .i64 l.length) (fun E => ex_lenS rfl (E.d 0 0) Try.underlying50) ?_
  refine QSeq.pure rfl _ (fun E => ex_move rfl (E.v oe1)) ?_
  refine QSeq.pure rfl (.int .i64 m.length) (fun E => ex_lenS rfl (E.d 2 0) Try.underlying50) ?_
  refine QSeq.pure rfl (.bool false) (fun E => ex_binE rfl (E.d 1 2) (E.d 3 0) (guard_ints _ _ _ _ _ _) (run_neq_i _ _ _ Try.underlying3) (congrArg Value.bool (ne_ff (by omega)))) ?_
  refine QSeq.nil (t' := [_, _, _, _, _]) rfl ?_
  obtain rfl := HA0.out
  clear HA0 oe0 oe1
  simp only [pz, Act.put, List.setIfInBounds_toArray, List.set_cons_zero, List.set_cons_succ]
  go_upto_region 3 with (fail)
  refine wp_region_U 26 [5] [0] (fun a0 HA0 => ?_)
  refine QSeq.pure rfl (.int .i64 0) (fun E => ex_assign rfl rfl) ?_
  refine QSeq.nil (t' := [_]) rfl ?_
  obtain rfl := HA0.out
  clear HA0
  simp only [pz, Act.put, List.setIfInBounds_toArray, List.set_cons_zero, List.set_cons_succ]
  have HLE := Lib.hid hl
  clear hl
  go_wp2
  go_loopw [5] (fun ti wr => ∃ k : Nat, ti = .int .i64 (k : Int) ∧ k ≤ l.length ∧ l.take k = m.take k ∧ w.heap.size ≤ wr.heap.size ∧ RdS StR R wr (.slice ao l.length cap) l ∧ RdS StR R2 wr (.slice bo m.length bcap) m ∧ Mod (fun _ => False) w wr) (fun ti _ => l.length - (intOf ti).toNat)
  case atStart => exact ⟨0, rfl, Nat.zero_le _, rfl, Nat.le_refl _, HS.out, HT.out, HM0.out⟩
  case round =>
   obtain ⟨k, rfl, hk, htk, hz, hs, ht, hm⟩ := hrel
   obtain ⟨wl, rfl⟩ : ∃ x, x = wr := ⟨_, rfl⟩
   have HS2 := Lib.hid hs
   have HT2 := Lib.hid ht
   have HML := Lib.hid hm
   have HTK := Lib.hid htk
   clear hs ht hm htk HS HT HM0
   by_cases hlt : k < l.length
   ·have hlt2 : k < m.length := by have := HLE.out; omega
    go_upto_region 4 with (fail)
    refine wp_region_U 26 [11, 12, 13, 14] [0, 1, 2, 3] (fun a0 HA0 => ?_)
    have oe0 := ev HA0 0 rfl
    have oe5 := ev HA0 5 rfl
    refine QSeq.pure rfl _ (fun E => ex_move rfl (E.v oe5)) ?_
    refine QSeq.pure rfl _ (fun E => ex_move rfl (E.v oe0)) ?_
    refine QSeq.pure rfl (.int .i64 l.length) (fun E => ex_lenS rfl (E.d 1 0) Try.underlying50) ?_
    refine QSeq.pure rfl (.bool true) (fun E => ex_binE rfl (E.d 0 2) (E.d 2 0) (guard_ints _ _ _ _ _ _) (run_lss_i _ _ _ Try.underlying3) (congrArg Value.bool (decide_eq_true (by omega)))) ?_
    refine QSeq.nil (t' := [_, _, _, _]) rfl ?_
    obtain rfl := HA0.out
    clear HA0 oe0 oe5
    simp only [pz, Act.put, List.setIfInBounds_toArray, List.set_cons_zero, List.set_cons_succ]
    have hat := HS2.out.at hlt
    obtain ⟨g1, o1, c1, eao, hrg, hrd, hcs⟩ := hat
    subst eao
    obtain ⟨x, hx⟩ : ∃ z, z = l[k] := ⟨_, rfl⟩
    rw [← hx] at hrd
    have HX1 := Lib.hid hx
    have hcl : c1.length = 38 := StR.len hrd
    have HCL1 := Lib.hid hcl
    have HAT1 := hid (show CellsAt R wl g1 (o1 + k * 38) c1 from ⟨hrg, hcs⟩)
    have HRD1 := Lib.hid hrd
    clear hcl hcs hrd hrg hx
    have hat := HT2.out.at hlt2
    obtain ⟨g2, o2, c2, eao, hrg, hrd, hcs⟩ := hat
    subst eao
    obtain ⟨y, hy⟩ : ∃ z, z = m[k] := ⟨_, rfl⟩
    rw [← hy] at hrd
    have HX2 := Lib.hid hy
    have hcl : c2.length = 38 := StR.len hrd
    have HCL2 := Lib.hid hcl
    have HAT2 := hid (show CellsAt R2 wl g2 (o2 + k * 38) c2 from ⟨hrg, hcs⟩)
    have HRD2 := Lib.hid hrd
    clear hcl hcs hrd hrg hy
    obtain ⟨b, hb⟩ : ∃ b, b = eqb x y := ⟨_, rfl⟩
    have HB := Lib.hid hb
    clear hb
    obtain ⟨rfl, hok1⟩ := HRD1.out
    obtain ⟨rfl, hok2⟩ := HRD2.out
    have HO1 := Lib.hid hok1
    have HO2 := Lib.hid hok2
    clear hok1 hok2
    clear HRD1
    clear HRD2
    go_upto_region 6 with (fail)
    generalize ha0 : Act.mk _ _ = a0
    have oe0 : a0.eval (.tmp 0) = .slice (some ⟨g1, o1, none⟩) l.length cap := by rw [← ha0]; rfl
    have oe1 : a0.eval (.tmp 1) = .slice (some ⟨g2, o2, none⟩) m.length bcap := by rw [← ha0]; rfl
    have oe5 : a0.eval (.tmp 5) = .int .i64 ((k : Nat) : Int) := by rw [← ha0]; rfl
    have hsz0 : a0.tmps.size = 26 := by rw [← ha0]; rfl
    have HA0 := hid ha0
    clear ha0
    refine wp_region_Q0 26 hsz0 [17, 18, 19, 20, 21, 22, 23, 24, 25] [qi (.slice (some ⟨g1, o1, none⟩) l.length cap), qi (.int .i64 ((k : Nat) : Int)), qi (.pointer (some ⟨g1, o1 + k * 38, none⟩)), qi (.agg x.cells.toArray), qi (.slice (some ⟨g2, o2, none⟩) m.length bcap), qi (.int .i64 ((k : Nat) : Int)), qi (.pointer (some ⟨g2, o2 + k * 38, none⟩)), qi (.agg y.cells.toArray), qi (.bool (!b))] ⟨qi_stable, qi_stable, qi_stable, qi_stable, qi_stable, qi_stable, qi_stable, qi_stable, qi_stable, trivial⟩ [] ⟨?_, ?_, ?_, ?_, ?_, ?_, ?_, ?_, ?_, trivial⟩ ?_
    ·exact stq (fun E => ex_move rfl (E.v oe0))
    ·exact stq (fun E => ex_move rfl (E.v oe5))
    ·exact stq (fun E => ex_idxS (i := k) (s := 38) rfl Try.underlying50 (by kernel_rfl) (E.d 0) (E.d 1) (by first | exact hlt | exact hlt2))
    ·exact stq (fun E => ex_loadA rfl Try.underlying30 rfl (off := o1 + k * 38) (cs := x.cells) (by rw [HCL1.out]; kernel_rfl) (E.d 2) (fun j u hu => ((HAT1.out.mod E.m.old (by intro k h1 h2; have hb := HBR.out k h1; omega))).2 j u hu))
    ·exact stq (fun E => ex_move rfl (E.v oe1))
    ·exact stq (fun E => ex_move rfl (E.v oe5))
    ·exact stq (fun E => ex_idxS (i := k) (s := 38) rfl Try.underlying50 (by kernel_rfl) (E.d 4) (E.d 5) (by first | exact hlt | exact hlt2))
    ·exact stq (fun E => ex_loadA rfl Try.underlying30 rfl (off := o2 + k * 38) (cs := y.cells) (by rw [HCL2.out]; kernel_rfl) (E.d 6) (fun j u hu => ((HAT2.out.mod E.m.old (by intro k h1 h2; have hb := HBT.out k h1; omega))).2 j u hu))
    ·exact stq (fun E => ex_binE rfl (E.d 3) (E.d 7) (agg_guardE _ _ _ _ _ _ (by kernel_rfl) _) (EqW.runN eqW_stamp (ki_st HO1.out) (ki_st HO2.out) (st_iff HO1.out HO2.out) _) (congrArg (fun z => Value.bool (!z)) HB.out.symm))
    intro u6_0 hr
    have zu6_0 := hr.size
    have Cx1 := hid (hr.new (S := (fun _ => False)))
    clear hr
    refine QChain.nil fun vs hl hzz hrows hne => ?_
    obtain ⟨Z, hYZ, hZb, hV⟩ := hzz
    have f0 := fvi hV hl 0
    have f1 := fvi hV hl 1
    have f4 := fvi hV hl 4
    have f5 := fvi hV hl 5
    have f8 := fvi hV hl 8
    rw [show vs = [gw vs 0, gw vs 1, gw vs 2, gw vs 3, gw vs 4, gw vs 5, gw vs 6, gw vs 7, gw vs 8] from (gw_eta hl).trans rfl]
    have ha0 := HA0.out
    subst ha0
    clear HA0 hV hYZ hZb hsz0 hrows hne oe0 oe1 oe5
    simp only [putAll, Act.put, List.setIfInBounds_toArray, List.set_cons_zero, List.set_cons_succ, f0, f1, f4, f5, f8]
    clear hl f0 f1 f4 f5 f8
    cases b with
    | false =>
     go_upto_region 7 with (fail)
     refine wp_region_U 26 [4] [0] (fun a0 HA0 => ?_)
     refine QSeq.pure rfl (.bool false) (fun E => ex_assign rfl rfl) ?_
     refine QSeq.nil (t' := [_]) rfl ?_
     obtain rfl := HA0.out
     clear HA0
     simp only [pz, Act.put, List.setIfInBounds_toArray, List.set_cons_zero, List.set_cons_succ]
     go_wp2
     go_ret
     exact ⟨ret_bool (take_ne hlt hlt2 (fun e => by have h := HB.out; rw [HX1.out, HX2.out, e, eqb_rfl] at h; cases h)).symm, (HML.out.trans Cx1.out (fun _ _ h => h.elim))⟩
    | true =>
     go_upto_region 5 with (fail)
     refine wp_region_U 26 [15, 16, 5] [0, 1, 2] (fun a0 HA0 => ?_)
     have oe5 := ev HA0 5 rfl
     refine QSeq.pure rfl _ (fun E => ex_move rfl (E.y 2 oe5)) ?_
     refine QSeq.pure rfl (.int .i64 (((k : Nat) : Int) + 1)) (fun E => ex_binE rfl (E.d 0 0) rfl (guard_ints _ _ _ _ _ _) (run_add_i _ _ Try.underlying3) (congrArg (Value.int .i64) (IntWalk.i64_in _ (by omega)))) ?_
     refine QSeq.pure rfl _ (fun E => ex_assign rfl (E.d 1 0)) ?_
     refine QSeq.nil (t' := [_, _, _]) rfl ?_
     obtain rfl := HA0.out
     clear HA0 oe5
     simp only [pz, Act.put, List.setIfInBounds_toArray, List.set_cons_zero, List.set_cons_succ]
     go_wp2
     go_roundw
     case rel => exact ⟨k + 1, by go_num, by omega, take_succ2 hlt hlt2 HTK.out (by have h := eqb_iff.1 HB.out.symm; rw [HX1.out, HX2.out] at h; exact h), by omega, (HS2.out.mod Cx1.out (fun _ _ h => h)), (HT2.out.mod Cx1.out (fun _ _ h => h)), (HML.out.trans Cx1.out (fun _ _ h => h.elim))⟩
     case measure => simp [intOf] <;> omega
   ·skip
    go_upto_region 4 with (fail)
    refine wp_region_U 26 [11, 12, 13, 14] [0, 1, 2, 3] (fun a0 HA0 => ?_)
    have oe0 := ev HA0 0 rfl
    have oe5 := ev HA0 5 rfl
    refine QSeq.pure rfl _ (fun E => ex_move rfl (E.v oe5)) ?_
    refine QSeq.pure rfl _ (fun E => ex_move rfl (E.v oe0)) ?_
    refine QSeq.pure rfl (.int .i64 l.length) (fun E => ex_lenS rfl (E.d 1 0) Try.underlying50) ?_
    refine QSeq.pure rfl (.bool false) (fun E => ex_binE rfl (E.d 0 2) (E.d 2 0) (guard_ints _ _ _ _ _ _) (run_lss_i _ _ _ Try.underlying3) (congrArg Value.bool (decide_eq_false (by omega)))) ?_
    refine QSeq.nil (t' := [_, _, _, _]) rfl ?_
    obtain rfl := HA0.out
    clear HA0 oe0 oe5
    simp only [pz, Act.put, List.setIfInBounds_toArray, List.set_cons_zero, List.set_cons_succ]
    go_upto_region 8 with (fail)
    refine wp_region_U 26 [4] [0] (fun a0 HA0 => ?_)
    refine QSeq.pure rfl (.bool true) (fun E => ex_assign rfl rfl) ?_
    refine QSeq.nil (t' := [_]) rfl ?_
    obtain rfl := HA0.out
    clear HA0
    simp only [pz, Act.put, List.setIfInBounds_toArray, List.set_cons_zero, List.set_cons_succ]
    go_wp2
    go_ret
    exact ⟨ret_bool (take_all (by omega) (by have := HLE.out; omega) HTK.out).symm, HML.out⟩
set_option maxHeartbeats 4000000 in
theorem EqL_Dn : EqsL DnR 122 := by
 intro R R2 v v2 l m w hs ht hB hB2
 obtain ⟨ao, cap, rfl⟩ := hs.shape
 obtain ⟨bo, bcap, rfl⟩ := ht.shape
 have hlm : l.length ≤ maxLen := hs.bd
 rw [maxLen_val] at hlm
 have HS := Lib.hid hs
 have HT := Lib.hid ht
 have HBR := Lib.hid hB
 have HBT := Lib.hid hB2
 clear hs ht hB hB2
 go_enter Try.func122, Try.ntmps122
 go_upto_region 1 with (fail)
 have HM0 := hid (Mod.refl (fun _ => False) w)
 by_cases hl : l.length = m.length
 rotate_left
 ·skip
  go_upto_region 1 with (fail)
  refine wp_region_U 26 [6, 7, 8, 9, 10] [0, 1, 2, 3, 4] (fun a0 HA0 => ?_)
  have oe0 := ev HA0 0 rfl
  have oe1 := ev HA0 1 rfl
  refine QSeq.pure rfl _ (fun E => ex_move rfl (E.v oe0)) ?_
  refine QSeq.pure rfl (.int .i64 l.length) (fun E => ex_lenS rfl (E.d 0 0) Try.underlying88) ?_
  refine QSeq.pure rfl _ (fun E => ex_move rfl (E.v oe1)) ?_
  refine QSeq.pure rfl (.int .i64 m.length) (fun E => ex_lenS rfl (E.d 2 0) Try.underlying88) ?_
  refine QSeq.pure rfl (.bool true) (fun E => ex_binE rfl (E.d 1 2) (E.d 3 0) (guard_ints _ _ _ _ _ _) (run_neq_i _ _ _ Try.underlying3) (congrArg Value.bool (ne_tt (by omega)))) ?_
  refine QSeq.nil (t' := [_, _, _, _, _]) rfl ?_
  obtain rfl := HA0.out
  clear HA0 oe0 oe1
  simp only [pz, Act.put, List.setIfInBounds_toArray, List.set_cons_zero, List.set_cons_succ]
  go_upto_region 2 with (fail)
  refine wp_region_U 26 [4] [0] (fun a0 HA0 => ?_)
  refine QSeq.pure rfl (.bool false) (fun E => ex_assign rfl rfl) ?_
  refine QSeq.nil (t' := [_]) rfl ?_
  obtain rfl := HA0.out
  clear HA0
  simp only [pz, Act.put, List.setIfInBounds_toArray, List.set_cons_zero, List.set_cons_succ]
  go_wp2
  go_ret
  exact ⟨ret_bool (eqb_ne fun e => hl (by rw [e])).symm, HM0.out⟩
 ·skip
  go_upto_region 1 with (fail)
  refine wp_region_U 26 [6, 7, 8, 9, 10] [0, 1, 2, 3, 4] (fun a0 HA0 => ?_)
  have oe0 := ev HA0 0 rfl
  have oe1 := ev HA0 1 rfl
  refine QSeq.pure rfl _ (fun E => ex_move rfl (E.v oe0)) ?_
  refine QSeq.pure rfl (.int .i64 l.length) (fun E => ex_lenS rfl (E.d 0 0) Try.underlying88) ?_
  refine QSeq.pure rfl _ (fun E => ex_move rfl (E.v oe1)) ?_
  refine QSeq.pure rfl (.int .i64 m.length) (fun E => ex_lenS rfl (E.d 2 0) Try.underlying88) ?_
  refine QSeq.pure rfl (.bool false) (fun E => ex_binE rfl (E.d 1 2) (E.d 3 0) (guard_ints _ _ _ _ _ _) (run_neq_i _ _ _ Try.underlying3) (congrArg Value.bool (ne_ff (by omega)))) ?_
  refine QSeq.nil (t' := [_, _, _, _, _]) rfl ?_
  obtain rfl := HA0.out
  clear HA0 oe0 oe1
  simp only [pz, Act.put, List.setIfInBounds_toArray, List.set_cons_zero, List.set_cons_succ]
  go_upto_region 3 with (fail)
  refine wp_region_U 26 [5] [0] (fun a0 HA0 => ?_)
  refine QSeq.pure rfl (.int .i64 0) (fun E => ex_assign rfl rfl) ?_
  refine QSeq.nil (t' := [_]) rfl ?_
  obtain rfl := HA0.out
  clear HA0
  simp only [pz, Act.put, List.setIfInBounds_toArray, List.set_cons_zero, List.set_cons_succ]
  have HLE := Lib.hid hl
  clear hl
  go_wp2
  go_loopw [5] (fun ti wr => ∃ k : Nat, ti = .int .i64 (k : Int) ∧ k ≤ l.length ∧ l.take k = m.take k ∧ w.heap.size ≤ wr.heap.size ∧ RdS DnR R wr (.slice ao l.length cap) l ∧ RdS DnR R2 wr (.slice bo m.length bcap) m ∧ Mod (fun _ => False) w wr) (fun ti _ => l.length - (intOf ti).toNat)
  case atStart => exact ⟨0, rfl, Nat.zero_le _, rfl, Nat.le_refl _, HS.out, HT.out, HM0.out⟩
  case round =>
   obtain ⟨k, rfl, hk, htk, hz, hs, ht, hm⟩ := hrel
   obtain ⟨wl, rfl⟩ : ∃ x, x = wr := ⟨_, rfl⟩
   have HS2 := Lib.hid hs
   have HT2 := Lib.hid ht
   have HML := Lib.hid hm
   have HTK := Lib.hid htk
   clear hs ht hm htk HS HT HM0
   by_cases hlt : k < l.length
   ·have hlt2 : k < m.length := by have := HLE.out; omega
    go_upto_region 4 with (fail)
    refine wp_region_U 26 [11, 12, 13, 14] [0, 1, 2, 3] (fun a0 HA0 => ?_)
    have oe0 := ev HA0 0 rfl
    have oe5 := ev HA0 5 rfl
    refine QSeq.pure rfl _ (fun E => ex_move rfl (E.v oe5)) ?_
    refine QSeq.pure rfl _ (fun E => ex_move rfl (E.v oe0)) ?_
    refine QSeq.pure rfl (.int .i64 l.length) (fun E => ex_lenS rfl (E.d 1 0) Try.underlying88) ?_
    refine QSeq.pure rfl (.bool true) (fun E => ex_binE rfl (E.d 0 2) (E.d 2 0) (guard_ints _ _ _ _ _ _) (run_lss_i _ _ _ Try.underlying3) (congrArg Value.bool (decide_eq_true (by omega)))) ?_
    refine QSeq.nil (t' := [_, _, _, _]) rfl ?_
    obtain rfl := HA0.out
    clear HA0 oe0 oe5
    simp only [pz, Act.put, List.setIfInBounds_toArray, List.set_cons_zero, List.set_cons_succ]
    have hat := HS2.out.at hlt
    obtain ⟨g1, o1, c1, eao, hrg, hrd, hcs⟩ := hat
    subst eao
    obtain ⟨x, hx⟩ : ∃ z, z = l[k] := ⟨_, rfl⟩
    rw [← hx] at hrd
    have HX1 := Lib.hid hx
    have hcl : c1.length = 4 := DnR.len hrd
    have HCL1 := Lib.hid hcl
    have HAT1 := hid (show CellsAt R wl g1 (o1 + k * 4) c1 from ⟨hrg, hcs⟩)
    have HRD1 := Lib.hid hrd
    clear hcl hcs hrd hrg hx
    have hat := HT2.out.at hlt2
    obtain ⟨g2, o2, c2, eao, hrg, hrd, hcs⟩ := hat
    subst eao
    obtain ⟨y, hy⟩ : ∃ z, z = m[k] := ⟨_, rfl⟩
    rw [← hy] at hrd
    have HX2 := Lib.hid hy
    have hcl : c2.length = 4 := DnR.len hrd
    have HCL2 := Lib.hid hcl
    have HAT2 := hid (show CellsAt R2 wl g2 (o2 + k * 4) c2 from ⟨hrg, hcs⟩)
    have HRD2 := Lib.hid hrd
    clear hcl hcs hrd hrg hy
    obtain ⟨b, hb⟩ : ∃ b, b = eqb x y := ⟨_, rfl⟩
    have HB := Lib.hid hb
    clear hb
    obtain ⟨rfl, hok1⟩ := HRD1.out
    obtain ⟨rfl, hok2⟩ := HRD2.out
    have HO1 := Lib.hid hok1
    have HO2 := Lib.hid hok2
    clear hok1 hok2
    clear HRD1
    clear HRD2
    go_upto_region 6 with (fail)
    generalize ha0 : Act.mk _ _ = a0
    have oe0 : a0.eval (.tmp 0) = .slice (some ⟨g1, o1, none⟩) l.length cap := by rw [← ha0]; rfl
    have oe1 : a0.eval (.tmp 1) = .slice (some ⟨g2, o2, none⟩) m.length bcap := by rw [← ha0]; rfl
    have oe5 : a0.eval (.tmp 5) = .int .i64 ((k : Nat) : Int) := by rw [← ha0]; rfl
    have hsz0 : a0.tmps.size = 26 := by rw [← ha0]; rfl
    have HA0 := hid ha0
    clear ha0
    refine wp_region_Q0 26 hsz0 [17, 18, 19, 20, 21, 22, 23, 24, 25] [qi (.slice (some ⟨g1, o1, none⟩) l.length cap), qi (.int .i64 ((k : Nat) : Int)), qi (.pointer (some ⟨g1, o1 + k * 4, none⟩)), qi (.agg x.cells.toArray), qi (.slice (some ⟨g2, o2, none⟩) m.length bcap), qi (.int .i64 ((k : Nat) : Int)), qi (.pointer (some ⟨g2, o2 + k * 4, none⟩)), qi (.agg y.cells.toArray), qi (.bool (!b))] ⟨qi_stable, qi_stable, qi_stable, qi_stable, qi_stable, qi_stable, qi_stable, qi_stable, qi_stable, trivial⟩ [] ⟨?_, ?_, ?_, ?_, ?_, ?_, ?_, ?_, ?_, trivial⟩ ?_
    ·exact stq (fun E => ex_move rfl (E.v oe0))
    ·exact stq (fun E => ex_move rfl (E.v oe5))
    ·exact stq (fun E => ex_idxS (i := k) (s := 4) rfl Try.underlying88 (by kernel_rfl) (E.d 0) (E.d 1) (by first | exact hlt | exact hlt2))
    ·exact stq (fun E => ex_loadA rfl Try.underlying34 rfl (off := o1 + k * 4) (cs := x.cells) (by rw [HCL1.out]; kernel_rfl) (E.d 2) (fun j u hu => ((HAT1.out.mod E.m.old (by intro k h1 h2; have hb := HBR.out k h1; omega))).2 j u hu))
    ·exact stq (fun E => ex_move rfl (E.v oe1))
    ·exact stq (fun E => ex_move rfl (E.v oe5))
    ·exact stq (fun E => ex_idxS (i := k) (s := 4) rfl Try.underlying88 (by kernel_rfl) (E.d 4) (E.d 5) (by first | exact hlt | exact hlt2))
    ·exact stq (fun E => ex_loadA rfl Try.underlying34 rfl (off := o2 + k * 4) (cs := y.cells) (by rw [HCL2.out]; kernel_rfl) (E.d 6) (fun j u hu => ((HAT2.out.mod E.m.old (by intro k h1 h2; have hb := HBT.out k h1; omega))).2 j u hu))
    ·exact stq (fun E => ex_binE rfl (E.d 3) (E.d 7) (agg_guardE _ _ _ _ _ _ (by kernel_rfl) _) (EqW.runN eqW_deny (ki_dn _) (ki_dn _) (dn_iff HO1.out HO2.out) _) (congrArg (fun z => Value.bool (!z)) HB.out.symm))
    intro u6_0 hr
    have zu6_0 := hr.size
    have Cx1 := hid (hr.new (S := (fun _ => False)))
    clear hr
    refine QChain.nil fun vs hl hzz hrows hne => ?_
    obtain ⟨Z, hYZ, hZb, hV⟩ := hzz
    have f0 := fvi hV hl 0
    have f1 := fvi hV hl 1
    have f4 := fvi hV hl 4
    have f5 := fvi hV hl 5
    have f8 := fvi hV hl 8
    rw [show vs = [gw vs 0, gw vs 1, gw vs 2, gw vs 3, gw vs 4, gw vs 5, gw vs 6, gw vs 7, gw vs 8] from (gw_eta hl).trans rfl]
    have ha0 := HA0.out
    subst ha0
    clear HA0 hV hYZ hZb hsz0 hrows hne oe0 oe1 oe5
    simp only [putAll, Act.put, List.setIfInBounds_toArray, List.set_cons_zero, List.set_cons_succ, f0, f1, f4, f5, f8]
    clear hl f0 f1 f4 f5 f8
    cases b with
    | false =>
     go_upto_region 7 with (fail)
     refine wp_region_U 26 [4] [0] (fun a0 HA0 => ?_)
     refine QSeq.pure rfl (.bool false) (fun E => ex_assign rfl rfl) ?_
     refine QSeq.nil (t' := [_]) rfl ?_
     obtain rfl := HA0.out
     clear HA0
     simp only [pz, Act.put, List.setIfInBounds_toArray, List.set_cons_zero, List.set_cons_succ]
     go_wp2
     go_ret
     exact ⟨ret_bool (take_ne hlt hlt2 (fun e => by have h := HB.out; rw [HX1.out, HX2.out, e, eqb_rfl] at h; cases h)).symm, (HML.out.trans Cx1.out (fun _ _ h => h.elim))⟩
    | true =>
     go_upto_region 5 with (fail)
     refine wp_region_U 26 [15, 16, 5] [0, 1, 2] (fun a0 HA0 => ?_)
     have oe5 := ev HA0 5 rfl
     refine QSeq.pure rfl _ (fun E => ex_move rfl (E.y 2 oe5)) ?_
     refine QSeq.pure rfl (.int .i64 (((k : Nat) : Int) + 1)) (fun E => ex_binE rfl (E.d 0 0) rfl (guard_ints _ _ _ _ _ _) (run_add_i _ _ Try.underlying3) (congrArg (Value.int .i64) (IntWalk.i64_in _ (by omega)))) ?_
     refine QSeq.pure rfl _ (fun E => ex_assign rfl (E.d 1 0)) ?_
     refine QSeq.nil (t' := [_, _, _]) rfl ?_
     obtain rfl := HA0.out
     clear HA0 oe5
     simp only [pz, Act.put, List.setIfInBounds_toArray, List.set_cons_zero, List.set_cons_succ]
     go_wp2
     go_roundw
     case rel => exact ⟨k + 1, by go_num, by omega, take_succ2 hlt hlt2 HTK.out (by have h := eqb_iff.1 HB.out.symm; rw [HX1.out, HX2.out] at h; exact h), by omega, (HS2.out.mod Cx1.out (fun _ _ h => h)), (HT2.out.mod Cx1.out (fun _ _ h => h)), (HML.out.trans Cx1.out (fun _ _ h => h.elim))⟩
     case measure => simp [intOf] <;> omega
   ·skip
    go_upto_region 4 with (fail)
    refine wp_region_U 26 [11, 12, 13, 14] [0, 1, 2, 3] (fun a0 HA0 => ?_)
    have oe0 := ev HA0 0 rfl
    have oe5 := ev HA0 5 rfl
    refine QSeq.pure rfl _ (fun E => ex_move rfl (E.v oe5)) ?_
    refine QSeq.pure rfl _ (fun E => ex_move rfl (E.v oe0)) ?_
    refine QSeq.pure rfl (.int .i64 l.length) (fun E => ex_lenS rfl (E.d 1 0) Try.underlying88) ?_
    refine QSeq.pure rfl (.bool false) (fun E => ex_binE rfl (E.d 0 2) (E.d 2 0) (guard_ints _ _ _ _ _ _) (run_lss_i _ _ _ Try.underlying3) (congrArg Value.bool (decide_eq_false (by omega)))) ?_
    refine QSeq.nil (t' := [_, _, _, _]) rfl ?_
    obtain rfl := HA0.out
    clear HA0 oe0 oe5
    simp only [pz, Act.put, List.setIfInBounds_toArray, List.set_cons_zero, List.set_cons_succ]
    go_upto_region 8 with (fail)
    refine wp_region_U 26 [4] [0] (fun a0 HA0 => ?_)
    refine QSeq.pure rfl (.bool true) (fun E => ex_assign rfl rfl) ?_
    refine QSeq.nil (t' := [_]) rfl ?_
    obtain rfl := HA0.out
    clear HA0
    simp only [pz, Act.put, List.setIfInBounds_toArray, List.set_cons_zero, List.set_cons_succ]
    go_wp2
    go_ret
    exact ⟨ret_bool (take_all (by omega) (by have := HLE.out; omega) HTK.out).symm, HML.out⟩
set_option maxHeartbeats 4000000 in
theorem Eq_Ce : Eqs CeR 30 := by
 intro R R2 cs ds x y w hx hy hB hB2
 obtain ⟨vx_l, rfl, hokx, hx_l⟩ := hx
 obtain ⟨ax_l, kx_l, rfl⟩ := hx_l.shape
 have Hx_l := Lib.hid hx_l
 clear hx_l
 have HOKx := Lib.hid hokx
 clear hokx
 obtain ⟨vy_l, rfl, hoky, hy_l⟩ := hy
 obtain ⟨ay_l, ky_l, rfl⟩ := hy_l.shape
 have Hy_l := Lib.hid hy_l
 clear hy_l
 have HOKy := Lib.hid hoky
 clear hoky
 have HBR := Lib.hid hB
 have HBT := Lib.hid hB2
 clear hB hB2
 go_enter Try.func30, Try.ntmps30
 go_upto_region 1 with (fail)
 obtain ⟨w1, hw1⟩ : ∃ zz, zz = ((w.alloc (.cells (x.cells (.slice ax_l x.l.length kx_l) : List Value).toArray 52)).alloc (.cells (y.cells (.slice ay_l y.l.length ky_l) : List Value).toArray 52)) := ⟨_, rfl⟩
 change Code.wp _ _ _ _ ((w.alloc (.cells (x.cells (.slice ax_l x.l.length kx_l) : List Value).toArray 52)).alloc (.cells (y.cells (.slice ay_l y.l.length ky_l) : List Value).toArray 52))
 rw [← hw1]
 have HB2 := hid (show Cs w1 (w.heap.size) (x.cells (.slice ax_l x.l.length kx_l) : List Value).toArray 52 by rw [hw1]; exact (Cs.new _ _ _).alloc _)
 have HB3 := hid (show Cs w1 (w.heap.size + 1) (y.cells (.slice ay_l y.l.length ky_l) : List Value).toArray 52 by rw [hw1]; exact Cs_newN _ _ _ (by simp))
 have hm : Mod (fun _ => False) w w1 := by rw [hw1]; exact ((Mod.refl _ _).alloc _).alloc _
 have HM0 := hid (show Mod (fun _ => False) w w1 from hm.mono (fun _ _ h => h.elim))
 have hs1 : w1.heap.size = w.heap.size + 2 := by rw [hw1]; simp
 have Hx1 := hid (Hx_l.out.mod hm (fun _ _ h => h))
 clear Hx_l
 have Hx2 := hid (Hy_l.out.mod hm (fun _ _ h => h))
 clear Hy_l
 clear hw1 hm
 go_upto_region 1 with (fail)
 refine wp_region_U 17 [5, 6, 7, 8, 9, 10, 11, 12, 13, 14, 15, 16, 4] [0, 1, 2, 3, 4, 5, 6, 7, 8, 9, 10, 11, 12] (fun a0 HA0 => ?_)
 have oe2 := ev HA0 2 rfl
 have oe3 := ev HA0 3 rfl
 refine QSeq.pure rfl (.pointer (some ⟨w.heap.size, 0, none⟩)) (fun E => ex_field rfl Try.underlying52 rfl (by kernel_rfl) (E.v oe2)) ?_
 refine QSeq.pure rfl _ (fun E => ex_loadA rfl Try.underlying49 rfl (off := 0) (cs := x.c.cells) (by rw [Cm.len HOKx.out.2.1]; exact size_commit) (E.d 0 0) (Cs.midA (pre := []) (mid := x.c.cells) (post := [.slice ax_l x.l.length kx_l]) HB2.out rfl)) ?_
 refine QSeq.pure rfl (.pointer (some ⟨w.heap.size + 1, 0, none⟩)) (fun E => ex_field rfl Try.underlying52 rfl (by kernel_rfl) (E.v oe3)) ?_
 refine QSeq.pure rfl _ (fun E => ex_loadA rfl Try.underlying49 rfl (off := 0) (cs := y.c.cells) (by rw [Cm.len HOKy.out.2.1]; exact size_commit) (E.d 2 0) (Cs.midA (pre := []) (mid := y.c.cells) (post := [.slice ay_l y.l.length ky_l]) HB3.out rfl)) ?_
 refine QSeq.pure rfl (.bool (eqb x.c y.c)) (fun E => ex_binE rfl (E.d 1 2) (E.d 3 0) (agg_guardE _ _ _ _ _ _ (by kernel_rfl) _) (EqW.run eqW_commit (ki_cm HOKx.out.2.1) (ki_cm HOKy.out.2.1) (cm_iff HOKx.out HOKy.out) _) rfl) ?_
 refine QSeq.pure rfl _ (fun E => ex_move rfl (E.d 4 0)) ?_
 refine QSeq.may (b := (eqb x.c y.c)) rfl (.pointer (some ⟨w.heap.size, 37, none⟩)) (fun E => ((wanted_of rfl rfl (E.sz 10 (by decide)) (E.d 5 0)).trans (beq_t _))) (fun E hb => ex_field rfl Try.underlying52 rfl (by kernel_rfl) (E.v oe2)) ?_
 intro v1_6 hw
 have hv1_6 := hid hw
 clear hw
 refine QSeq.may (b := (eqb x.c y.c)) rfl (.slice ax_l x.l.length kx_l) (fun E => ((wanted_of rfl rfl (E.sz 10 (by decide)) (E.d 5 1)).trans (beq_t _))) (fun E hb => ex_load1 rfl Try.underlying50 rfl ((E.q 6 0 hv1_6.out).1 hb) (Cs.post1 (pre := []) (mid := x.c.cells) (post := [.slice ax_l x.l.length kx_l]) (m := 37) (k := 0) HB2.out (Cm.len HOKx.out.2.1) rfl rfl)) ?_
 intro v1_7 hw
 have hv1_7 := hid hw
 clear hw
 refine QSeq.may (b := (eqb x.c y.c)) rfl (.pointer (some ⟨w.heap.size + 1, 37, none⟩)) (fun E => ((wanted_of rfl rfl (E.sz 10 (by decide)) (E.d 5 2)).trans (beq_t _))) (fun E hb => ex_field rfl Try.underlying52 rfl (by kernel_rfl) (E.v oe3)) ?_
 intro v1_8 hw
 have hv1_8 := hid hw
 clear hw
 refine QSeq.may (b := (eqb x.c y.c)) rfl (.slice ay_l y.l.length ky_l) (fun E => ((wanted_of rfl rfl (E.sz 10 (by decide)) (E.d 5 3)).trans (beq_t _))) (fun E hb => ex_load1 rfl Try.underlying50 rfl ((E.q 8 0 hv1_8.out).1 hb) (Cs.post1 (pre := []) (mid := y.c.cells) (post := [.slice ay_l y.l.length ky_l]) (m := 37) (k := 0) HB3.out (Cm.len HOKy.out.2.1) rfl rfl)) ?_
 intro v1_9 hw
 have hv1_9 := hid hw
 clear hw
 refine QSeq.mayCall (b := (eqb x.c y.c)) rfl (.bool (eqb x.l y.l)) (args := #[.slice ax_l x.l.length kx_l, .slice ay_l y.l.length ky_l]) (fun E => ((wanted_of rfl rfl (E.sz 10 (by decide)) (E.d 5 4)).trans (beq_t _))) rfl Try.func79 (fun E hb => args2 ((E.q 7 2 hv1_7.out).1 hb) ((E.q 9 0 hv1_9.out).1 hb)) (fun hb => EqL_St _ _ _ _ _ _ _ Hx1.out Hx2.out (by intro k h1; have hb := HBR.out k h1; (try have := hm.size); omega) (by intro k h1; have hb := HBT.out k h1; (try have := hm.size); omega)) ?_
 intro v1_10 u1_10 hw hm
 have hv1_10 := hid hw
 clear hw
 have zu1_10 := hm.size
 have Cx3 := hid (show Mod (fun _ => False) w1 u1_10 from hm)
 clear hm
 refine QSeq.pure rfl (.bool ((eqb x.c y.c) && (eqb x.l y.l))) (fun E => ex_pickE rfl (E.d 5 5) rfl rfl (and_val fun hb => (E.q 10 0 hv1_10.out).1 hb)) ?_
 refine QSeq.pure rfl _ (fun E => ex_assign rfl (E.d 11 0)) ?_
 clear hv1_6 hv1_7 hv1_8 hv1_9 hv1_10
 refine QSeq.nil (t' := [_, _, _, _, _, _, _, _, _, _, _, _, _]) rfl ?_
 obtain rfl := HA0.out
 clear HA0 oe2 oe3
 simp only [pz, Act.put, List.setIfInBounds_toArray, List.set_cons_zero, List.set_cons_succ]
 go_wp2
 go_ret
 exact ⟨ret_bool (ce_eqb x y), (HM0.out.trans Cx3.out (fun _ _ h => h.elim))⟩
set_option maxHeartbeats 4000000 in
theorem EqL_Ce : EqsL CeR 83 := by
 intro R R2 v v2 l m w hs ht hB hB2
 obtain ⟨ao, cap, rfl⟩ := hs.shape
 obtain ⟨bo, bcap, rfl⟩ := ht.shape
 have hlm : l.length ≤ maxLen := hs.bd
 rw [maxLen_val] at hlm
 have HS := Lib.hid hs
 have HT := Lib.hid ht
 have HBR := Lib.hid hB
 have HBT := Lib.hid hB2
 clear hs ht hB hB2
 go_enter Try.func83, Try.ntmps83
 go_upto_region 1 with (fail)
 have HM0 := hid (Mod.refl (fun _ => False) w)
 by_cases hl : l.length = m.length
 rotate_left
 ·skip
  go_upto_region 1 with (fail)
  refine wp_region_U 27 [6, 7, 8, 9, 10] [0, 1, 2, 3, 4] (fun a0 HA0 => ?_)
  have oe0 := ev HA0 0 rfl
  have oe1 := ev HA0 1 rfl
  refine QSeq.pure rfl _ (fun E => ex_move rfl (E.v oe0)) ?_
  refine QSeq.pure rfl (.int .i64 l.length) (fun E => ex_lenS rfl (E.d 0 0) Try.underlying53) ?_
  refine QSeq.pure rfl _ (fun E => ex_move rfl (E.v oe1)) ?_
  refine QSeq.pure rfl (.int .i64 m.length) (fun E => ex_lenS rfl (E.d 2 0) Try.underlying53) ?_
  refine QSeq.pure rfl (.bool true) (fun E => ex_binE rfl (E.d 1 2) (E.d 3 0) (guard_ints _ _ _ _ _ _) (run_neq_i _ _ _ Try.underlying3) (congrArg Value.bool (ne_tt (by omega)))) ?_
  refine QSeq.nil (t' := [_, _, _, _, _]) rfl ?_
  obtain rfl := HA0.out
  clear HA0 oe0 oe1
  simp only [pz, Act.put, List.setIfInBounds_toArray, List.set_cons_zero, List.set_cons_succ]
  go_upto_region 2 with (fail)
  refine wp_region_U 27 [4] [0] (fun a0 HA0 => ?_)
  refine QSeq.pure rfl (.bool false) (fun E => ex_assign rfl rfl) ?_
  refine QSeq.nil (t' := [_]) rfl ?_
  obtain rfl := HA0.out
  clear HA0
  simp only [pz, Act.put, List.setIfInBounds_toArray, List.set_cons_zero, List.set_cons_succ]
  go_wp2
  go_ret
  exact ⟨ret_bool (eqb_ne fun e => hl (by rw [e])).symm, HM0.out⟩
 ·skip
  go_upto_region 1 with (fail)
  refine wp_region_U 27 [6, 7, 8, 9, 10] [0, 1, 2, 3, 4] (fun a0 HA0 => ?_)
  have oe0 := ev HA0 0 rfl
  have oe1 := ev HA0 1 rfl
  refine QSeq.pure rfl _ (fun E => ex_move rfl (E.v oe0)) ?_
  refine QSeq.pure rfl (.int .i64 l.length) (fun E => ex_lenS rfl (E.d 0 0) Try.underlying53) ?_
  refine QSeq.pure rfl _ (fun E => ex_move rfl (E.v oe1)) ?_
  refine QSeq.pure rfl (.int .i64 m.length) (fun E => ex_lenS rfl (E.d 2 0) Try.underlying53) ?_
  refine QSeq.pure rfl (.bool false) (fun E => ex_binE rfl (E.d 1 2) (E.d 3 0) (guard_ints _ _ _ _ _ _) (run_neq_i _ _ _ Try.underlying3) (congrArg Value.bool (ne_ff (by omega)))) ?_
  refine QSeq.nil (t' := [_, _, _, _, _]) rfl ?_
  obtain rfl := HA0.out
  clear HA0 oe0 oe1
  simp only [pz, Act.put, List.setIfInBounds_toArray, List.set_cons_zero, List.set_cons_succ]
  go_upto_region 3 with (fail)
  refine wp_region_U 27 [11, 12, 13] [0, 1, 2] (fun a0 HA0 => ?_)
  have oe0 := ev HA0 0 rfl
  refine QSeq.pure rfl _ (fun E => ex_move rfl (E.v oe0)) ?_
  refine QSeq.pure rfl (.int .i64 l.length) (fun E => ex_lenS rfl (E.d 0 0) Try.underlying53) ?_
  refine QSeq.pure rfl (.int .i64 0) (fun E => ex_move rfl rfl) ?_
  refine QSeq.nil (t' := [_, _, _]) rfl ?_
  obtain rfl := HA0.out
  clear HA0 oe0
  simp only [pz, Act.put, List.setIfInBounds_toArray, List.set_cons_zero, List.set_cons_succ]
  have HLE := Lib.hid hl
  clear hl
  go_wp2
  go_loopw [13, 5] (fun ti t5 wr => ∃ k : Nat, ti = .int .i64 (k : Int) ∧ k ≤ l.length ∧ l.take k = m.take k ∧ w.heap.size ≤ wr.heap.size ∧ RdS CeR R wr (.slice ao l.length cap) l ∧ RdS CeR R2 wr (.slice bo m.length bcap) m ∧ Mod (fun _ => False) w wr) (fun ti t5 _ => l.length - (intOf ti).toNat)
  case atStart => exact ⟨0, rfl, Nat.zero_le _, rfl, Nat.le_refl _, HS.out, HT.out, HM0.out⟩
  case round =>
   obtain ⟨k, rfl, hk, htk, hz, hs, ht, hm⟩ := hrel
   obtain ⟨wl, rfl⟩ : ∃ x, x = wr := ⟨_, rfl⟩
   have HS2 := Lib.hid hs
   have HT2 := Lib.hid ht
   have HML := Lib.hid hm
   have HTK := Lib.hid htk
   clear hs ht hm htk HS HT HM0
   by_cases hlt : k < l.length
   ·have hlt2 : k < m.length := by have := HLE.out; omega
    go_upto_region 4 with (fail)
    refine wp_region_U 27 [14] [0] (fun a0 HA0 => ?_)
    have oe12 := ev HA0 12 rfl
    have oe13 := ev HA0 13 rfl
    refine QSeq.pure rfl (.bool true) (fun E => ex_binE rfl (E.v oe13) (E.v oe12) (guard_ints _ _ _ _ _ _) (run_lss_i _ _ _ Try.underlying3) (congrArg Value.bool (decide_eq_true (by omega)))) ?_
    refine QSeq.nil (t' := [_]) rfl ?_
    obtain rfl := HA0.out
    clear HA0 oe12 oe13
    simp only [pz, Act.put, List.setIfInBounds_toArray, List.set_cons_zero, List.set_cons_succ]
    go_upto_region 5 with (fail)
    refine wp_region_U 27 [15, 5] [0, 1] (fun a0 HA0 => ?_)
    have oe13 := ev HA0 13 rfl
    refine QSeq.pure rfl _ (fun E => ex_move rfl (E.v oe13)) ?_
    refine QSeq.pure rfl _ (fun E => ex_assign rfl (E.d 0 0)) ?_
    refine QSeq.nil (t' := [_, _]) rfl ?_
    obtain rfl := HA0.out
    clear HA0 oe13
    simp only [pz, Act.put, List.setIfInBounds_toArray, List.set_cons_zero, List.set_cons_succ]
    have hat := HS2.out.at hlt
    obtain ⟨g1, o1, c1, eao, hrg, hrd, hcs⟩ := hat
    subst eao
    obtain ⟨x, hx⟩ : ∃ z, z = l[k] := ⟨_, rfl⟩
    rw [← hx] at hrd
    have HX1 := Lib.hid hx
    have hcl : c1.length = 38 := CeR.len hrd
    have HCL1 := Lib.hid hcl
    have HAT1 := hid (show CellsAt R wl g1 (o1 + k * 38) c1 from ⟨hrg, hcs⟩)
    have HRD1 := Lib.hid hrd
    clear hcl hcs hrd hrg hx
    have hat := HT2.out.at hlt2
    obtain ⟨g2, o2, c2, eao, hrg, hrd, hcs⟩ := hat
    subst eao
    obtain ⟨y, hy⟩ : ∃ z, z = m[k] := ⟨_, rfl⟩
    rw [← hy] at hrd
    have HX2 := Lib.hid hy
    have hcl : c2.length = 38 := CeR.len hrd
    have HCL2 := Lib.hid hcl
    have HAT2 := hid (show CellsAt R2 wl g2 (o2 + k * 38) c2 from ⟨hrg, hcs⟩)
    have HRD2 := Lib.hid hrd
    clear hcl hcs hrd hrg hy
    obtain ⟨b, hb⟩ : ∃ b, b = eqb x y := ⟨_, rfl⟩
    have HB := Lib.hid hb
    clear hb
    go_upto_region 6 with (fail)
    generalize ha0 : Act.mk _ _ = a0
    have oe0 : a0.eval (.tmp 0) = .slice (some ⟨g1, o1, none⟩) l.length cap := by rw [← ha0]; rfl
    have oe1 : a0.eval (.tmp 1) = .slice (some ⟨g2, o2, none⟩) m.length bcap := by rw [← ha0]; rfl
    have oe5 : a0.eval (.tmp 5) = .int .i64 ((k : Nat) : Int) := by rw [← ha0]; rfl
    have hsz0 : a0.tmps.size = 27 := by rw [← ha0]; rfl
    have HA0 := hid ha0
    clear ha0
    refine wp_region_Q0 27 hsz0 [16, 17, 18, 19, 20, 21, 22, 23, 24, 25] [qi (.slice (some ⟨g1, o1, none⟩) l.length cap), qi (.int .i64 ((k : Nat) : Int)), qi (.pointer (some ⟨g1, o1 + k * 38, none⟩)), qi (.agg c1.toArray), qi (.slice (some ⟨g2, o2, none⟩) m.length bcap), qi (.int .i64 ((k : Nat) : Int)), qi (.pointer (some ⟨g2, o2 + k * 38, none⟩)), qi (.agg c2.toArray), qi (.bool b), qi (.bool (!b))] ⟨qi_stable, qi_stable, qi_stable, qi_stable, qi_stable, qi_stable, qi_stable, qi_stable, qi_stable, qi_stable, trivial⟩ [8] ⟨?_, ?_, ?_, ?_, ?_, ?_, ?_, ?_, ?_, ?_, trivial⟩ ?_
    ·exact stq (fun E => ex_move rfl (E.v oe0))
    ·exact stq (fun E => ex_move rfl (E.v oe5))
    ·exact stq (fun E => ex_idxS (i := k) (s := 38) rfl Try.underlying53 (by kernel_rfl) (E.d 0) (E.d 1) (by first | exact hlt | exact hlt2))
    ·exact stq (fun E => ex_loadA rfl Try.underlying52 rfl (off := o1 + k * 38) (cs := c1) (by rw [HCL1.out]; kernel_rfl) (E.d 2) (fun j u hu => ((HAT1.out.mod E.m.old (by intro k h1 h2; have hb := HBR.out k h1; omega))).2 j u hu))
    ·exact stq (fun E => ex_move rfl (E.v oe1))
    ·exact stq (fun E => ex_move rfl (E.v oe5))
    ·exact stq (fun E => ex_idxS (i := k) (s := 38) rfl Try.underlying53 (by kernel_rfl) (E.d 4) (E.d 5) (by first | exact hlt | exact hlt2))
    ·exact stq (fun E => ex_loadA rfl Try.underlying52 rfl (off := o2 + k * 38) (cs := c2) (by rw [HCL2.out]; kernel_rfl) (E.d 6) (fun j u hu => ((HAT2.out.mod E.m.old (by intro k h1 h2; have hb := HBT.out k h1; omega))).2 j u hu))
    ·exact stepq_chain rfl
    ·exact stq (fun E => ex_not rfl (E.d 8))
    intro u6_0 hr
    have zu6_0 := hr.size
    have Cx1 := hid (hr.new (S := (fun _ => False)))
    clear hr
    refine QChain.go fun Z act E => ?_
    refine qc_callF (args := #[.agg c1.toArray, .agg c2.toArray]) rfl (wanted_none rfl) rfl Try.func30 (args2 (E.d 3) (E.d 7)) (HB.out.symm ▸ Eq_Ce _ _ _ _ _ _ _ (HRD1.out.mod Cx1.out (fun _ _ h => h)) (HRD2.out.mod Cx1.out (fun _ _ h => h)) (by intro k h1; have hb := HBR.out k h1; omega) (by intro k h1; have hb := HBT.out k h1; omega)) ?_
    rintro e u6_1a ⟨rfl, hm⟩
    have zu6_1a := hm.size
    refine ⟨_, rfl, hm.mono (fun _ _ h => h.elim), (fun _ => rfl), ?_⟩
    intro u6_1 hr
    have zu6_1 := hr.size
    have Cx2 := hid (Cx1.out.go hm hr)
    clear Cx1 hm hr Z act E
    refine QChain.nil fun vs hl hzz hrows hne => ?_
    obtain ⟨Z, hYZ, hZb, hV⟩ := hzz
    have f0 := fvi hV hl 0
    have f1 := fvi hV hl 1
    have f4 := fvi hV hl 4
    have f5 := fvi hV hl 5
    have f8 := fvi hV hl 8
    have f9 := fvi hV hl 9
    rw [show vs = [gw vs 0, gw vs 1, gw vs 2, gw vs 3, gw vs 4, gw vs 5, gw vs 6, gw vs 7, gw vs 8, gw vs 9] from (gw_eta hl).trans rfl]
    have ha0 := HA0.out
    subst ha0
    clear HA0 hV hYZ hZb hsz0 hrows hne oe0 oe1 oe5
    simp only [putAll, Act.put, List.setIfInBounds_toArray, List.set_cons_zero, List.set_cons_succ, f0, f1, f4, f5, f8, f9]
    clear hl f0 f1 f4 f5 f8 f9
    cases b with
    | false =>
     go_upto_region 7 with (fail)
     refine wp_region_U 27 [4] [0] (fun a0 HA0 => ?_)
     refine QSeq.pure rfl (.bool false) (fun E => ex_assign rfl rfl) ?_
     refine QSeq.nil (t' := [_]) rfl ?_
     obtain rfl := HA0.out
     clear HA0
     simp only [pz, Act.put, List.setIfInBounds_toArray, List.set_cons_zero, List.set_cons_succ]
     go_wp2
     go_ret
     exact ⟨ret_bool (take_ne hlt hlt2 (fun e => by have h := HB.out; rw [HX1.out, HX2.out, e, eqb_rfl] at h; cases h)).symm, (HML.out.trans Cx2.out (fun _ _ h => h.elim))⟩
    | true =>
     go_upto_region 8 with (fail)
     refine wp_region_U 27 [26, 13] [0, 1] (fun a0 HA0 => ?_)
     have oe13 := ev HA0 13 rfl
     refine QSeq.pure rfl (.int .i64 (((k : Nat) : Int) + 1)) (fun E => ex_binE rfl (E.y 1 oe13) rfl (guard_ints _ _ _ _ _ _) (run_add_i _ _ Try.underlying3) (congrArg (Value.int .i64) (IntWalk.i64_in _ (by omega)))) ?_
     refine QSeq.pure rfl _ (fun E => ex_move rfl (E.d 0 0)) ?_
     refine QSeq.nil (t' := [_, _]) rfl ?_
     obtain rfl := HA0.out
     clear HA0 oe13
     simp only [pz, Act.put, List.setIfInBounds_toArray, List.set_cons_zero, List.set_cons_succ]
     go_wp2
     go_roundw
     case rel => exact ⟨k + 1, by go_num, by omega, take_succ2 hlt hlt2 HTK.out (by have h := eqb_iff.1 HB.out.symm; rw [HX1.out, HX2.out] at h; exact h), by omega, (HS2.out.mod Cx2.out (fun _ _ h => h)), (HT2.out.mod Cx2.out (fun _ _ h => h)), (HML.out.trans Cx2.out (fun _ _ h => h.elim))⟩
     case measure => simp [intOf] <;> omega
   ·skip
    go_upto_region 4 with (fail)
    refine wp_region_U 27 [14] [0] (fun a0 HA0 => ?_)
    have oe12 := ev HA0 12 rfl
    have oe13 := ev HA0 13 rfl
    refine QSeq.pure rfl (.bool false) (fun E => ex_binE rfl (E.v oe13) (E.v oe12) (guard_ints _ _ _ _ _ _) (run_lss_i _ _ _ Try.underlying3) (congrArg Value.bool (decide_eq_false (by omega)))) ?_
    refine QSeq.nil (t' := [_]) rfl ?_
    obtain rfl := HA0.out
    clear HA0 oe12 oe13
    simp only [pz, Act.put, List.setIfInBounds_toArray, List.set_cons_zero, List.set_cons_succ]
    go_upto_region 9 with (fail)
    refine wp_region_U 27 [4] [0] (fun a0 HA0 => ?_)
    refine QSeq.pure rfl (.bool true) (fun E => ex_assign rfl rfl) ?_
    refine QSeq.nil (t' := [_]) rfl ?_
    obtain rfl := HA0.out
    clear HA0
    simp only [pz, Act.put, List.setIfInBounds_toArray, List.set_cons_zero, List.set_cons_succ]
    go_wp2
    go_ret
    exact ⟨ret_bool (take_all (by omega) (by have := HLE.out; omega) HTK.out).symm, HML.out⟩
set_option maxHeartbeats 4000000 in
theorem Eq_Pm : Eqs PmR 33 := by
 intro R R2 cs ds x y w hx hy hB hB2
 obtain ⟨vx_l, rfl, hokx, hx_l⟩ := hx
 obtain ⟨ax_l, kx_l, rfl⟩ := hx_l.shape
 have Hx_l := Lib.hid hx_l
 clear hx_l
 have HOKx := Lib.hid hokx
 clear hokx
 obtain ⟨vy_l, rfl, hoky, hy_l⟩ := hy
 obtain ⟨ay_l, ky_l, rfl⟩ := hy_l.shape
 have Hy_l := Lib.hid hy_l
 clear hy_l
 have HOKy := Lib.hid hoky
 clear hoky
 have HBR := Lib.hid hB
 have HBT := Lib.hid hB2
 clear hB hB2
 go_enter Try.func33, Try.ntmps33
 go_upto_region 1 with (fail)
 obtain ⟨w1, hw1⟩ : ∃ zz, zz = ((w.alloc (.cells (x.cells (.slice ax_l x.l.length kx_l) : List Value).toArray 55)).alloc (.cells (y.cells (.slice ay_l y.l.length ky_l) : List Value).toArray 55)) := ⟨_, rfl⟩
 change Code.wp _ _ _ _ ((w.alloc (.cells (x.cells (.slice ax_l x.l.length kx_l) : List Value).toArray 55)).alloc (.cells (y.cells (.slice ay_l y.l.length ky_l) : List Value).toArray 55))
 rw [← hw1]
 have HB2 := hid (show Cs w1 (w.heap.size) (x.cells (.slice ax_l x.l.length kx_l) : List Value).toArray 55 by rw [hw1]; exact (Cs.new _ _ _).alloc _)
 have HB3 := hid (show Cs w1 (w.heap.size + 1) (y.cells (.slice ay_l y.l.length ky_l) : List Value).toArray 55 by rw [hw1]; exact Cs_newN _ _ _ (by simp))
 have hm : Mod (fun _ => False) w w1 := by rw [hw1]; exact ((Mod.refl _ _).alloc _).alloc _
 have HM0 := hid (show Mod (fun _ => False) w w1 from hm.mono (fun _ _ h => h.elim))
 have hs1 : w1.heap.size = w.heap.size + 2 := by rw [hw1]; simp
 have Hx1 := hid (Hx_l.out.mod hm (fun _ _ h => h))
 clear Hx_l
 have Hx2 := hid (Hy_l.out.mod hm (fun _ _ h => h))
 clear Hy_l
 clear hw1 hm
 go_upto_region 1 with (fail)
 refine wp_region_U 38 [5, 6, 7, 8, 9, 10, 11, 12, 13, 14, 15, 16, 17, 18, 19, 20, 21, 22, 23, 24, 25, 26, 27, 28, 29, 30, 31, 32, 33, 34, 35, 36, 37, 4] [0, 1, 2, 3, 4, 5, 6, 7, 8, 9, 10, 11, 12, 13, 14, 15, 16, 17, 18, 19, 20, 21, 22, 23, 24, 25, 26, 27, 28, 29, 30, 31, 32, 33] (fun a0 HA0 => ?_)
 have oe2 := ev HA0 2 rfl
 have oe3 := ev HA0 3 rfl
 refine QSeq.pure rfl (.pointer (some ⟨w.heap.size, 0, none⟩)) (fun E => ex_field rfl Try.underlying55 rfl (by kernel_rfl) (E.v oe2)) ?_
 refine QSeq.pure rfl _ (fun E => ex_load1 rfl Try.underlying3 rfl (E.d 0 0) (Cs.lit1 HB2.out rfl)) ?_
 refine QSeq.pure rfl (.pointer (some ⟨w.heap.size + 1, 0, none⟩)) (fun E => ex_field rfl Try.underlying55 rfl (by kernel_rfl) (E.v oe3)) ?_
 refine QSeq.pure rfl _ (fun E => ex_load1 rfl Try.underlying3 rfl (E.d 2 0) (Cs.lit1 HB3.out rfl)) ?_
 refine QSeq.pure rfl (.bool (x.rp == y.rp)) (fun E => ex_bin rfl (E.d 1 2) (E.d 3 0) (guard_ints _ _ _ _ _ _) (run_eql_i _ _ _ Try.underlying3)) ?_
 refine QSeq.pure rfl _ (fun E => ex_move rfl (E.d 4 0)) ?_
 refine QSeq.may (b := (x.rp == y.rp)) rfl (.pointer (some ⟨w.heap.size, 1, none⟩)) (fun E => ((wanted_of rfl rfl (E.sz 10 (by decide)) (E.d 5 0)).trans (beq_t _))) (fun E hb => ex_field rfl Try.underlying55 rfl (by kernel_rfl) (E.v oe2)) ?_
 intro v1_6 hw
 have hv1_6 := hid hw
 clear hw
 refine QSeq.may (b := (x.rp == y.rp)) rfl (.int .i64 x.ep) (fun E => ((wanted_of rfl rfl (E.sz 10 (by decide)) (E.d 5 1)).trans (beq_t _))) (fun E hb => ex_load1 rfl Try.underlying3 rfl ((E.q 6 0 hv1_6.out).1 hb) (Cs.lit1 HB2.out rfl)) ?_
 intro v1_7 hw
 have hv1_7 := hid hw
 clear hw
 refine QSeq.may (b := (x.rp == y.rp)) rfl (.pointer (some ⟨w.heap.size + 1, 1, none⟩)) (fun E => ((wanted_of rfl rfl (E.sz 10 (by decide)) (E.d 5 2)).trans (beq_t _))) (fun E hb => ex_field rfl Try.underlying55 rfl (by kernel_rfl) (E.v oe3)) ?_
 intro v1_8 hw
 have hv1_8 := hid hw
 clear hw
 refine QSeq.may (b := (x.rp == y.rp)) rfl (.int .i64 y.ep) (fun E => ((wanted_of rfl rfl (E.sz 10 (by decide)) (E.d 5 3)).trans (beq_t _))) (fun E hb => ex_load1 rfl Try.underlying3 rfl ((E.q 8 0 hv1_8.out).1 hb) (Cs.lit1 HB3.out rfl)) ?_
 intro v1_9 hw
 have hv1_9 := hid hw
 clear hw
 refine QSeq.may (b := (x.rp == y.rp)) rfl (.bool (x.ep == y.ep)) (fun E => ((wanted_of rfl rfl (E.sz 10 (by decide)) (E.d 5 4)).trans (beq_t _))) (fun E hb => ex_bin rfl ((E.q 7 2 hv1_7.out).1 hb) ((E.q 9 0 hv1_9.out).1 hb) (guard_ints _ _ _ _ _ _) (run_eql_i _ _ _ Try.underlying3)) ?_
 intro v1_10 hw
 have hv1_10 := hid hw
 clear hw
 refine QSeq.pure rfl (.bool ((x.rp == y.rp) && (x.ep == y.ep))) (fun E => ex_pickE rfl (E.d 5 5) rfl rfl (and_val fun hb => (E.q 10 0 hv1_10.out).1 hb)) ?_
 refine QSeq.pure rfl _ (fun E => ex_move rfl (E.d 11 0)) ?_
 refine QSeq.may (b := ((x.rp == y.rp) && (x.ep == y.ep))) rfl (.pointer (some ⟨w.heap.size, 2, none⟩)) (fun E => ((wanted_of rfl rfl (E.sz 17 (by decide)) (E.d 12 0)).trans (beq_t _))) (fun E hb => ex_field rfl Try.underlying55 rfl (by kernel_rfl) (E.v oe2)) ?_
 intro v1_13 hw
 have hv1_13 := hid hw
 clear hw
 refine QSeq.may (b := ((x.rp == y.rp) && (x.ep == y.ep))) rfl (.int .u64 (x.fl : Nat)) (fun E => ((wanted_of rfl rfl (E.sz 17 (by decide)) (E.d 12 1)).trans (beq_t _))) (fun E hb => ex_load1 rfl Try.underlying26 rfl ((E.q 13 0 hv1_13.out).1 hb) (Cs.lit1 HB2.out rfl)) ?_
 intro v1_14 hw
 have hv1_14 := hid hw
 clear hw
 refine QSeq.may (b := ((x.rp == y.rp) && (x.ep == y.ep))) rfl (.pointer (some ⟨w.heap.size + 1, 2, none⟩)) (fun E => ((wanted_of rfl rfl (E.sz 17 (by decide)) (E.d 12 2)).trans (beq_t _))) (fun E hb => ex_field rfl Try.underlying55 rfl (by kernel_rfl) (E.v oe3)) ?_
 intro v1_15 hw
 have hv1_15 := hid hw
 clear hw
 refine QSeq.may (b := ((x.rp == y.rp) && (x.ep == y.ep))) rfl (.int .u64 (y.fl : Nat)) (fun E => ((wanted_of rfl rfl (E.sz 17 (by decide)) (E.d 12 3)).trans (beq_t _))) (fun E hb => ex_load1 rfl Try.underlying26 rfl ((E.q 15 0 hv1_15.out).1 hb) (Cs.lit1 HB3.out rfl)) ?_
 intro v1_16 hw
 have hv1_16 := hid hw
 clear hw
 refine QSeq.may (b := ((x.rp == y.rp) && (x.ep == y.ep))) rfl (.bool (((x.fl : Nat) : Int) == ((y.fl : Nat) : Int))) (fun E => ((wanted_of rfl rfl (E.sz 17 (by decide)) (E.d 12 4)).trans (beq_t _))) (fun E hb => ex_bin rfl ((E.q 14 2 hv1_14.out).1 hb) ((E.q 16 0 hv1_16.out).1 hb) (guard_ints _ _ _ _ _ _) (run_eql_i _ _ _ Try.underlying26)) ?_
 intro v1_17 hw
 have hv1_17 := hid hw
 clear hw
 refine QSeq.pure rfl (.bool (((x.rp == y.rp) && (x.ep == y.ep)) && (((x.fl : Nat) : Int) == ((y.fl : Nat) : Int)))) (fun E => ex_pickE rfl (E.d 12 5) rfl rfl (and_val fun hb => (E.q 17 0 hv1_17.out).1 hb)) ?_
 refine QSeq.pure rfl _ (fun E => ex_move rfl (E.d 18 0)) ?_
 refine QSeq.may (b := (((x.rp == y.rp) && (x.ep == y.ep)) && (((x.fl : Nat) : Int) == ((y.fl : Nat) : Int)))) rfl (.pointer (some ⟨w.heap.size, 4, none⟩)) (fun E => ((wanted_of rfl rfl (E.sz 24 (by decide)) (E.d 19 0)).trans (beq_t _))) (fun E hb => ex_field rfl Try.underlying55 rfl (by kernel_rfl) (E.v oe2)) ?_
 intro v1_20 hw
 have hv1_20 := hid hw
 clear hw
 refine QSeq.may (b := (((x.rp == y.rp) && (x.ep == y.ep)) && (((x.fl : Nat) : Int) == ((y.fl : Nat) : Int)))) rfl (.agg #[.int .i64 x.sb, .int .i64 x.mr]) (fun E => ((wanted_of rfl rfl (E.sz 24 (by decide)) (E.d 19 1)).trans (beq_t _))) (fun E hb => ex_loadA rfl Try.underlying28 rfl (off := 4) (cs := [.int .i64 x.sb, .int .i64 x.mr]) (by kernel_rfl) ((E.q 20 0 hv1_20.out).1 hb) (Cs.litA HB2.out rfl)) ?_
 intro v1_21 hw
 have hv1_21 := hid hw
 clear hw
 refine QSeq.may (b := (((x.rp == y.rp) && (x.ep == y.ep)) && (((x.fl : Nat) : Int) == ((y.fl : Nat) : Int)))) rfl (.pointer (some ⟨w.heap.size + 1, 4, none⟩)) (fun E => ((wanted_of rfl rfl (E.sz 24 (by decide)) (E.d 19 2)).trans (beq_t _))) (fun E hb => ex_field rfl Try.underlying55 rfl (by kernel_rfl) (E.v oe3)) ?_
 intro v1_22 hw
 have hv1_22 := hid hw
 clear hw
 refine QSeq.may (b := (((x.rp == y.rp) && (x.ep == y.ep)) && (((x.fl : Nat) : Int) == ((y.fl : Nat) : Int)))) rfl (.agg #[.int .i64 y.sb, .int .i64 y.mr]) (fun E => ((wanted_of rfl rfl (E.sz 24 (by decide)) (E.d 19 3)).trans (beq_t _))) (fun E hb => ex_loadA rfl Try.underlying28 rfl (off := 4) (cs := [.int .i64 y.sb, .int .i64 y.mr]) (by kernel_rfl) ((E.q 22 0 hv1_22.out).1 hb) (Cs.litA HB3.out rfl)) ?_
 intro v1_23 hw
 have hv1_23 := hid hw
 clear hw
 refine QSeq.may (b := (((x.rp == y.rp) && (x.ep == y.ep)) && (((x.fl : Nat) : Int) == ((y.fl : Nat) : Int)))) rfl (.bool (eqb (x.sb, x.mr) (y.sb, y.mr))) (fun E => ((wanted_of rfl rfl (E.sz 24 (by decide)) (E.d 19 4)).trans (beq_t _))) (fun E hb => ex_binE rfl ((E.q 21 2 hv1_21.out).1 hb) ((E.q 23 0 hv1_23.out).1 hb) (agg_guardE _ _ _ _ _ _ (by kernel_rfl) _) (EqW.run eqW_sig (ki_2 x.sb x.mr) (ki_2 y.sb y.mr) (two_iff x.sb x.mr y.sb y.mr) _) rfl) ?_
 intro v1_24 hw
 have hv1_24 := hid hw
 clear hw
 refine QSeq.pure rfl (.bool ((((x.rp == y.rp) && (x.ep == y.ep)) && (((x.fl : Nat) : Int) == ((y.fl : Nat) : Int))) && (eqb (x.sb, x.mr) (y.sb, y.mr)))) (fun E => ex_pickE rfl (E.d 19 5) rfl rfl (and_val fun hb => (E.q 24 0 hv1_24.out).1 hb)) ?_
 refine QSeq.pure rfl _ (fun E => ex_move rfl (E.d 25 0)) ?_
 refine QSeq.may (b := ((((x.rp == y.rp) && (x.ep == y.ep)) && (((x.fl : Nat) : Int) == ((y.fl : Nat) : Int))) && (eqb (x.sb, x.mr) (y.sb, y.mr)))) rfl (.pointer (some ⟨w.heap.size, 3, none⟩)) (fun E => ((wanted_of rfl rfl (E.sz 31 (by decide)) (E.d 26 0)).trans (beq_t _))) (fun E hb => ex_field rfl Try.underlying55 rfl (by kernel_rfl) (E.v oe2)) ?_
 intro v1_27 hw
 have hv1_27 := hid hw
 clear hw
 refine QSeq.may (b := ((((x.rp == y.rp) && (x.ep == y.ep)) && (((x.fl : Nat) : Int) == ((y.fl : Nat) : Int))) && (eqb (x.sb, x.mr) (y.sb, y.mr)))) rfl (.slice ax_l x.l.length kx_l) (fun E => ((wanted_of rfl rfl (E.sz 31 (by decide)) (E.d 26 1)).trans (beq_t _))) (fun E hb => ex_load1 rfl Try.underlying53 rfl ((E.q 27 0 hv1_27.out).1 hb) (Cs.lit1 HB2.out rfl)) ?_
 intro v1_28 hw
 have hv1_28 := hid hw
 clear hw
 refine QSeq.may (b := ((((x.rp == y.rp) && (x.ep == y.ep)) && (((x.fl : Nat) : Int) == ((y.fl : Nat) : Int))) && (eqb (x.sb, x.mr) (y.sb, y.mr)))) rfl (.pointer (some ⟨w.heap.size + 1, 3, none⟩)) (fun E => ((wanted_of rfl rfl (E.sz 31 (by decide)) (E.d 26 2)).trans (beq_t _))) (fun E hb => ex_field rfl Try.underlying55 rfl (by kernel_rfl) (E.v oe3)) ?_
 intro v1_29 hw
 have hv1_29 := hid hw
 clear hw
 refine QSeq.may (b := ((((x.rp == y.rp) && (x.ep == y.ep)) && (((x.fl : Nat) : Int) == ((y.fl : Nat) : Int))) && (eqb (x.sb, x.mr) (y.sb, y.mr)))) rfl (.slice ay_l y.l.length ky_l) (fun E => ((wanted_of rfl rfl (E.sz 31 (by decide)) (E.d 26 3)).trans (beq_t _))) (fun E hb => ex_load1 rfl Try.underlying53 rfl ((E.q 29 0 hv1_29.out).1 hb) (Cs.lit1 HB3.out rfl)) ?_
 intro v1_30 hw
 have hv1_30 := hid hw
 clear hw
 refine QSeq.mayCall (b := ((((x.rp == y.rp) && (x.ep == y.ep)) && (((x.fl : Nat) : Int) == ((y.fl : Nat) : Int))) && (eqb (x.sb, x.mr) (y.sb, y.mr)))) rfl (.bool (eqb x.l y.l)) (args := #[.slice ax_l x.l.length kx_l, .slice ay_l y.l.length ky_l]) (fun E => ((wanted_of rfl rfl (E.sz 31 (by decide)) (E.d 26 4)).trans (beq_t _))) rfl Try.func83 (fun E hb => args2 ((E.q 28 2 hv1_28.out).1 hb) ((E.q 30 0 hv1_30.out).1 hb)) (fun hb => EqL_Ce _ _ _ _ _ _ _ Hx1.out Hx2.out (by intro k h1; have hb := HBR.out k h1; (try have := hm.size); omega) (by intro k h1; have hb := HBT.out k h1; (try have := hm.size); omega)) ?_
 intro v1_31 u1_31 hw hm
 have hv1_31 := hid hw
 clear hw
 have zu1_31 := hm.size
 have Cx3 := hid (show Mod (fun _ => False) w1 u1_31 from hm)
 clear hm
 refine QSeq.pure rfl (.bool (((((x.rp == y.rp) && (x.ep == y.ep)) && (((x.fl : Nat) : Int) == ((y.fl : Nat) : Int))) && (eqb (x.sb, x.mr) (y.sb, y.mr))) && (eqb x.l y.l))) (fun E => ex_pickE rfl (E.d 26 5) rfl rfl (and_val fun hb => (E.q 31 0 hv1_31.out).1 hb)) ?_
 refine QSeq.pure rfl _ (fun E => ex_assign rfl (E.d 32 0)) ?_
 clear hv1_6 hv1_7 hv1_8 hv1_9 hv1_10 hv1_13 hv1_14 hv1_15 hv1_16 hv1_17 hv1_20 hv1_21 hv1_22 hv1_23 hv1_24 hv1_27 hv1_28 hv1_29 hv1_30 hv1_31
 refine QSeq.nil (t' := [_, _, _, _, _, _, _, _, _, _, _, _, _, _, _, _, _, _, _, _, _, _, _, _, _, _, _, _, _, _, _, _, _, _]) rfl ?_
 obtain rfl := HA0.out
 clear HA0 oe2 oe3
 simp only [pz, Act.put, List.setIfInBounds_toArray, List.set_cons_zero, List.set_cons_succ]
 go_wp2
 go_ret
 exact ⟨ret_bool (pm_eqb x y), (HM0.out.trans Cx3.out (fun _ _ h => h.elim))⟩
set_option maxHeartbeats 4000000 in
theorem Eq_Op : Eqs OpR 121 := by
 intro R R2 cs ds x y w hx hy hB hB2
 obtain ⟨vx_pl, rfl, hokx, hx_pl⟩ := hx
 obtain ⟨ax_pl, kx_pl, rfl⟩ := hx_pl.shape
 have Hx_pl := Lib.hid hx_pl
 clear hx_pl
 have HOKx := Lib.hid hokx
 clear hokx
 obtain ⟨vy_pl, rfl, hoky, hy_pl⟩ := hy
 obtain ⟨ay_pl, ky_pl, rfl⟩ := hy_pl.shape
 have Hy_pl := Lib.hid hy_pl
 clear hy_pl
 have HOKy := Lib.hid hoky
 clear hoky
 have HBR := Lib.hid hB
 have HBT := Lib.hid hB2
 clear hB hB2
 go_enter Try.func121, Try.ntmps121
 go_upto_region 1 with (fail)
 obtain ⟨w1, hw1⟩ : ∃ zz, zz = ((w.alloc (.cells (x.cells (.slice ax_pl x.pl.length kx_pl) : List Value).toArray 87)).alloc (.cells (y.cells (.slice ay_pl y.pl.length ky_pl) : List Value).toArray 87)) := ⟨_, rfl⟩
 change Code.wp _ _ _ _ ((w.alloc (.cells (x.cells (.slice ax_pl x.pl.length kx_pl) : List Value).toArray 87)).alloc (.cells (y.cells (.slice ay_pl y.pl.length ky_pl) : List Value).toArray 87))
 rw [← hw1]
 have HB2 := hid (show Cs w1 (w.heap.size) (x.cells (.slice ax_pl x.pl.length kx_pl) : List Value).toArray 87 by rw [hw1]; exact (Cs.new _ _ _).alloc _)
 have HB3 := hid (show Cs w1 (w.heap.size + 1) (y.cells (.slice ay_pl y.pl.length ky_pl) : List Value).toArray 87 by rw [hw1]; exact Cs_newN _ _ _ (by simp))
 have hm : Mod (fun _ => False) w w1 := by rw [hw1]; exact ((Mod.refl _ _).alloc _).alloc _
 have HM0 := hid (show Mod (fun _ => False) w w1 from hm.mono (fun _ _ h => h.elim))
 have hs1 : w1.heap.size = w.heap.size + 2 := by rw [hw1]; simp
 have Hx1 := hid (Hx_pl.out.mod hm (fun _ _ h => h))
 clear Hx_pl
 have Hx2 := hid (Hy_pl.out.mod hm (fun _ _ h => h))
 clear Hy_pl
 clear hw1 hm
 go_upto_region 1 with (fail)
 refine wp_region_U 24 [5, 6, 7, 8, 9, 10, 11, 12, 13, 14, 15, 16, 17, 18, 19, 20, 21, 22, 23, 4] [0, 1, 2, 3, 4, 5, 6, 7, 8, 9, 10, 11, 12, 13, 14, 15, 16, 17, 18, 19] (fun a0 HA0 => ?_)
 have oe2 := ev HA0 2 rfl
 have oe3 := ev HA0 3 rfl
 refine QSeq.pure rfl (.pointer (some ⟨w.heap.size, 0, none⟩)) (fun E => ex_field rfl Try.underlying87 rfl (by kernel_rfl) (E.v oe2)) ?_
 refine QSeq.pure rfl _ (fun E => ex_load1 rfl Try.underlying3 rfl (E.d 0 0) (Cs.hd1 HB2.out rfl)) ?_
 refine QSeq.pure rfl (.pointer (some ⟨w.heap.size + 1, 0, none⟩)) (fun E => ex_field rfl Try.underlying87 rfl (by kernel_rfl) (E.v oe3)) ?_
 refine QSeq.pure rfl _ (fun E => ex_load1 rfl Try.underlying3 rfl (E.d 2 0) (Cs.hd1 HB3.out rfl)) ?_
 refine QSeq.pure rfl (.bool (x.ix == y.ix)) (fun E => ex_bin rfl (E.d 1 2) (E.d 3 0) (guard_ints _ _ _ _ _ _) (run_eql_i _ _ _ Try.underlying3)) ?_
 refine QSeq.pure rfl _ (fun E => ex_move rfl (E.d 4 0)) ?_
 refine QSeq.may (b := (x.ix == y.ix)) rfl (.pointer (some ⟨w.heap.size, 2, none⟩)) (fun E => ((wanted_of rfl rfl (E.sz 10 (by decide)) (E.d 5 0)).trans (beq_t _))) (fun E hb => ex_field rfl Try.underlying87 rfl (by kernel_rfl) (E.v oe2)) ?_
 intro v1_6 hw
 have hv1_6 := hid hw
 clear hw
 refine QSeq.may (b := (x.ix == y.ix)) rfl (hv x.nc) (fun E => ((wanted_of rfl rfl (E.sz 10 (by decide)) (E.d 5 1)).trans (beq_t _))) (fun E hb => ex_loadA rfl Try.underlying25 rfl (off := 2) (cs := x.nc.map bv) (by rw [List.length_map, HOKx.out.2.1]; exact size_hash) ((E.q 6 0 hv1_6.out).1 hb) (Cs.tlA HB2.out rfl)) ?_
 intro v1_7 hw
 have hv1_7 := hid hw
 clear hw
 refine QSeq.may (b := (x.ix == y.ix)) rfl (.pointer (some ⟨w.heap.size + 1, 2, none⟩)) (fun E => ((wanted_of rfl rfl (E.sz 10 (by decide)) (E.d 5 2)).trans (beq_t _))) (fun E hb => ex_field rfl Try.underlying87 rfl (by kernel_rfl) (E.v oe3)) ?_
 intro v1_8 hw
 have hv1_8 := hid hw
 clear hw
 refine QSeq.may (b := (x.ix == y.ix)) rfl (hv y.nc) (fun E => ((wanted_of rfl rfl (E.sz 10 (by decide)) (E.d 5 3)).trans (beq_t _))) (fun E hb => ex_loadA rfl Try.underlying25 rfl (off := 2) (cs := y.nc.map bv) (by rw [List.length_map, HOKy.out.2.1]; exact size_hash) ((E.q 8 0 hv1_8.out).1 hb) (Cs.tlA HB3.out rfl)) ?_
 intro v1_9 hw
 have hv1_9 := hid hw
 clear hw
 refine QSeq.may (b := (x.ix == y.ix)) rfl (.bool (eqb x.nc y.nc)) (fun E => ((wanted_of rfl rfl (E.sz 10 (by decide)) (E.d 5 4)).trans (beq_t _))) (fun E hb => ex_binE rfl ((E.q 7 2 hv1_7.out).1 hb) ((E.q 9 0 hv1_9.out).1 hb) (hv_guard2 _ _ _ _ _ _) (hv_eql HOKx.out.2.1 HOKy.out.2.1 _) (congrArg Value.bool (dec_eqb _ _))) ?_
 intro v1_10 hw
 have hv1_10 := hid hw
 clear hw
 refine QSeq.pure rfl (.bool ((x.ix == y.ix) && (eqb x.nc y.nc))) (fun E => ex_pickE rfl (E.d 5 5) rfl rfl (and_val fun hb => (E.q 10 0 hv1_10.out).1 hb)) ?_
 refine QSeq.pure rfl _ (fun E => ex_move rfl (E.d 11 0)) ?_
 refine QSeq.may (b := ((x.ix == y.ix) && (eqb x.nc y.nc))) rfl (.pointer (some ⟨w.heap.size, 1, none⟩)) (fun E => ((wanted_of rfl rfl (E.sz 17 (by decide)) (E.d 12 0)).trans (beq_t _))) (fun E hb => ex_field rfl Try.underlying87 rfl (by kernel_rfl) (E.v oe2)) ?_
 intro v1_13 hw
 have hv1_13 := hid hw
 clear hw
 refine QSeq.may (b := ((x.ix == y.ix) && (eqb x.nc y.nc))) rfl (.slice ax_pl x.pl.length kx_pl) (fun E => ((wanted_of rfl rfl (E.sz 17 (by decide)) (E.d 12 1)).trans (beq_t _))) (fun E hb => ex_load1 rfl Try.underlying38 rfl ((E.q 13 0 hv1_13.out).1 hb) (Cs.hd1 HB2.out rfl)) ?_
 intro v1_14 hw
 have hv1_14 := hid hw
 clear hw
 refine QSeq.may (b := ((x.ix == y.ix) && (eqb x.nc y.nc))) rfl (.pointer (some ⟨w.heap.size + 1, 1, none⟩)) (fun E => ((wanted_of rfl rfl (E.sz 17 (by decide)) (E.d 12 2)).trans (beq_t _))) (fun E hb => ex_field rfl Try.underlying87 rfl (by kernel_rfl) (E.v oe3)) ?_
 intro v1_15 hw
 have hv1_15 := hid hw
 clear hw
 refine QSeq.may (b := ((x.ix == y.ix) && (eqb x.nc y.nc))) rfl (.slice ay_pl y.pl.length ky_pl) (fun E => ((wanted_of rfl rfl (E.sz 17 (by decide)) (E.d 12 3)).trans (beq_t _))) (fun E hb => ex_load1 rfl Try.underlying38 rfl ((E.q 15 0 hv1_15.out).1 hb) (Cs.hd1 HB3.out rfl)) ?_
 intro v1_16 hw
 have hv1_16 := hid hw
 clear hw
 refine QSeq.mayCall (b := ((x.ix == y.ix) && (eqb x.nc y.nc))) rfl (.bool (eqb x.pl y.pl)) (args := #[.slice ax_pl x.pl.length kx_pl, .slice ay_pl y.pl.length ky_pl]) (fun E => ((wanted_of rfl rfl (E.sz 17 (by decide)) (E.d 12 4)).trans (beq_t _))) rfl Try.func18 (fun E hb => args2 ((E.q 14 2 hv1_14.out).1 hb) ((E.q 16 0 hv1_16.out).1 hb)) (fun hb => Same_B Hx1.out Hx2.out) ?_
 intro v1_17 u1_17 hw hm
 have hv1_17 := hid hw
 clear hw
 have zu1_17 := hm.size
 have Cx3 := hid (show Mod (fun _ => False) w1 u1_17 from hm)
 clear hm
 refine QSeq.pure rfl (.bool (((x.ix == y.ix) && (eqb x.nc y.nc)) && (eqb x.pl y.pl))) (fun E => ex_pickE rfl (E.d 12 5) rfl rfl (and_val fun hb => (E.q 17 0 hv1_17.out).1 hb)) ?_
 refine QSeq.pure rfl _ (fun E => ex_assign rfl (E.d 18 0)) ?_
 clear hv1_6 hv1_7 hv1_8 hv1_9 hv1_10 hv1_13 hv1_14 hv1_15 hv1_16 hv1_17
 refine QSeq.nil (t' := [_, _, _, _, _, _, _, _, _, _, _, _, _, _, _, _, _, _, _, _]) rfl ?_
 obtain rfl := HA0.out
 clear HA0 oe2 oe3
 simp only [pz, Act.put, List.setIfInBounds_toArray, List.set_cons_zero, List.set_cons_succ]
 go_wp2
 go_ret
 exact ⟨ret_bool (op_eqb x y), (HM0.out.trans Cx3.out (fun _ _ h => h.elim))⟩
set_option maxHeartbeats 4000000 in
theorem EqL_Op : EqsL OpR 87 := by
 intro R R2 v v2 l m w hs ht hB hB2
 obtain ⟨ao, cap, rfl⟩ := hs.shape
 obtain ⟨bo, bcap, rfl⟩ := ht.shape
 have hlm : l.length ≤ maxLen := hs.bd
 rw [maxLen_val] at hlm
 have HS := Lib.hid hs
 have HT := Lib.hid ht
 have HBR := Lib.hid hB
 have HBT := Lib.hid hB2
 clear hs ht hB hB2
 go_enter Try.func87, Try.ntmps87
 go_upto_region 1 with (fail)
 have HM0 := hid (Mod.refl (fun _ => False) w)
 by_cases hl : l.length = m.length
 rotate_left
 ·skip
  go_upto_region 1 with (fail)
  refine wp_region_U 27 [6, 7, 8, 9, 10] [0, 1, 2, 3, 4] (fun a0 HA0 => ?_)
  have oe0 := ev HA0 0 rfl
  have oe1 := ev HA0 1 rfl
  refine QSeq.pure rfl _ (fun E => ex_move rfl (E.v oe0)) ?_
  refine QSeq.pure rfl (.int .i64 l.length) (fun E => ex_lenS rfl (E.d 0 0) Try.underlying57) ?_
  refine QSeq.pure rfl _ (fun E => ex_move rfl (E.v oe1)) ?_
  refine QSeq.pure rfl (.int .i64 m.length) (fun E => ex_lenS rfl (E.d 2 0) Try.underlying57) ?_
  refine QSeq.pure rfl (.bool true) (fun E => ex_binE rfl (E.d 1 2) (E.d 3 0) (guard_ints _ _ _ _ _ _) (run_neq_i _ _ _ Try.underlying3) (congrArg Value.bool (ne_tt (by omega)))) ?_
  refine QSeq.nil (t' := [_, _, _, _, _]) rfl ?_
  obtain rfl := HA0.out
  clear HA0 oe0 oe1
  simp only [pz, Act.put, List.setIfInBounds_toArray, List.set_cons_zero, List.set_cons_succ]
  go_upto_region 2 with (fail)
  refine wp_region_U 27 [4] [0] (fun a0 HA0 => ?_)
  refine QSeq.pure rfl (.bool false) (fun E => ex_assign rfl rfl) ?_
  refine QSeq.nil (t' := [_]) rfl ?_
  obtain rfl := HA0.out
  clear HA0
  simp only [pz, Act.put, List.setIfInBounds_toArray, List.set_cons_zero, List.set_cons_succ]
  go_wp2
  go_ret
  exact ⟨ret_bool (eqb_ne fun e => hl (by rw [e])).symm, HM0.out⟩
 ·skip
  go_upto_region 1 with (fail)
  refine wp_region_U 27 [6, 7, 8, 9, 10] [0, 1, 2, 3, 4] (fun a0 HA0 => ?_)
  have oe0 := ev HA0 0 rfl
  have oe1 := ev HA0 1 rfl
  refine QSeq.pure rfl _ (fun E => ex_move rfl (E.v oe0)) ?_
  refine QSeq.pure rfl (.int .i64 l.length) (fun E => ex_lenS rfl (E.d 0 0) Try.underlying57) ?_
  refine QSeq.pure rfl _ (fun E => ex_move rfl (E.v oe1)) ?_
  refine QSeq.pure rfl (.int .i64 m.length) (fun E => ex_lenS rfl (E.d 2 0) Try.underlying57) ?_
  refine QSeq.pure rfl (.bool false) (fun E => ex_binE rfl (E.d 1 2) (E.d 3 0) (guard_ints _ _ _ _ _ _) (run_neq_i _ _ _ Try.underlying3) (congrArg Value.bool (ne_ff (by omega)))) ?_
  refine QSeq.nil (t' := [_, _, _, _, _]) rfl ?_
  obtain rfl := HA0.out
  clear HA0 oe0 oe1
  simp only [pz, Act.put, List.setIfInBounds_toArray, List.set_cons_zero, List.set_cons_succ]
  go_upto_region 3 with (fail)
  refine wp_region_U 27 [11, 12, 13] [0, 1, 2] (fun a0 HA0 => ?_)
  have oe0 := ev HA0 0 rfl
  refine QSeq.pure rfl _ (fun E => ex_move rfl (E.v oe0)) ?_
  refine QSeq.pure rfl (.int .i64 l.length) (fun E => ex_lenS rfl (E.d 0 0) Try.underlying57) ?_
  refine QSeq.pure rfl (.int .i64 0) (fun E => ex_move rfl rfl) ?_
  refine QSeq.nil (t' := [_, _, _]) rfl ?_
  obtain rfl := HA0.out
  clear HA0 oe0
  simp only [pz, Act.put, List.setIfInBounds_toArray, List.set_cons_zero, List.set_cons_succ]
  have HLE := Lib.hid hl
  clear hl
  go_wp2
  go_loopw [13, 5] (fun ti t5 wr => ∃ k : Nat, ti = .int .i64 (k : Int) ∧ k ≤ l.length ∧ l.take k = m.take k ∧ w.heap.size ≤ wr.heap.size ∧ RdS OpR R wr (.slice ao l.length cap) l ∧ RdS OpR R2 wr (.slice bo m.length bcap) m ∧ Mod (fun _ => False) w wr) (fun ti t5 _ => l.length - (intOf ti).toNat)
  case atStart => exact ⟨0, rfl, Nat.zero_le _, rfl, Nat.le_refl _, HS.out, HT.out, HM0.out⟩
  case round =>
   obtain ⟨k, rfl, hk, htk, hz, hs, ht, hm⟩ := hrel
   obtain ⟨wl, rfl⟩ : ∃ x, x = wr := ⟨_, rfl⟩
   have HS2 := Lib.hid hs
   have HT2 := Lib.hid ht
   have HML := Lib.hid hm
   have HTK := Lib.hid htk
   clear hs ht hm htk HS HT HM0
   by_cases hlt : k < l.length
   ·have hlt2 : k < m.length := by have := HLE.out; omega
    go_upto_region 4 with (fail)
    refine wp_region_U 27 [14] [0] (fun a0 HA0 => ?_)
    have oe12 := ev HA0 12 rfl
    have oe13 := ev HA0 13 rfl
    refine QSeq.pure rfl (.bool true) (fun E => ex_binE rfl (E.v oe13) (E.v oe12) (guard_ints _ _ _ _ _ _) (run_lss_i _ _ _ Try.underlying3) (congrArg Value.bool (decide_eq_true (by omega)))) ?_
    refine QSeq.nil (t' := [_]) rfl ?_
    obtain rfl := HA0.out
    clear HA0 oe12 oe13
    simp only [pz, Act.put, List.setIfInBounds_toArray, List.set_cons_zero, List.set_cons_succ]
    go_upto_region 5 with (fail)
    refine wp_region_U 27 [15, 5] [0, 1] (fun a0 HA0 => ?_)
    have oe13 := ev HA0 13 rfl
    refine QSeq.pure rfl _ (fun E => ex_move rfl (E.v oe13)) ?_
    refine QSeq.pure rfl _ (fun E => ex_assign rfl (E.d 0 0)) ?_
    refine QSeq.nil (t' := [_, _]) rfl ?_
    obtain rfl := HA0.out
    clear HA0 oe13
    simp only [pz, Act.put, List.setIfInBounds_toArray, List.set_cons_zero, List.set_cons_succ]
    have hat := HS2.out.at hlt
    obtain ⟨g1, o1, c1, eao, hrg, hrd, hcs⟩ := hat
    subst eao
    obtain ⟨x, hx⟩ : ∃ z, z = l[k] := ⟨_, rfl⟩
    rw [← hx] at hrd
    have HX1 := Lib.hid hx
    have hcl : c1.length = 34 := OpR.len hrd
    have HCL1 := Lib.hid hcl
    have HAT1 := hid (show CellsAt R wl g1 (o1 + k * 34) c1 from ⟨hrg, hcs⟩)
    have HRD1 := Lib.hid hrd
    clear hcl hcs hrd hrg hx
    have hat := HT2.out.at hlt2
    obtain ⟨g2, o2, c2, eao, hrg, hrd, hcs⟩ := hat
    subst eao
    obtain ⟨y, hy⟩ : ∃ z, z = m[k] := ⟨_, rfl⟩
    rw [← hy] at hrd
    have HX2 := Lib.hid hy
    have hcl : c2.length = 34 := OpR.len hrd
    have HCL2 := Lib.hid hcl
    have HAT2 := hid (show CellsAt R2 wl g2 (o2 + k * 34) c2 from ⟨hrg, hcs⟩)
    have HRD2 := Lib.hid hrd
    clear hcl hcs hrd hrg hy
    obtain ⟨b, hb⟩ : ∃ b, b = eqb x y := ⟨_, rfl⟩
    have HB := Lib.hid hb
    clear hb
    go_upto_region 6 with (fail)
    generalize ha0 : Act.mk _ _ = a0
    have oe0 : a0.eval (.tmp 0) = .slice (some ⟨g1, o1, none⟩) l.length cap := by rw [← ha0]; rfl
    have oe1 : a0.eval (.tmp 1) = .slice (some ⟨g2, o2, none⟩) m.length bcap := by rw [← ha0]; rfl
    have oe5 : a0.eval (.tmp 5) = .int .i64 ((k : Nat) : Int) := by rw [← ha0]; rfl
    have hsz0 : a0.tmps.size = 27 := by rw [← ha0]; rfl
    have HA0 := hid ha0
    clear ha0
    refine wp_region_Q0 27 hsz0 [16, 17, 18, 19, 20, 21, 22, 23, 24, 25] [qi (.slice (some ⟨g1, o1, none⟩) l.length cap), qi (.int .i64 ((k : Nat) : Int)), qi (.pointer (some ⟨g1, o1 + k * 34, none⟩)), qi (.agg c1.toArray), qi (.slice (some ⟨g2, o2, none⟩) m.length bcap), qi (.int .i64 ((k : Nat) : Int)), qi (.pointer (some ⟨g2, o2 + k * 34, none⟩)), qi (.agg c2.toArray), qi (.bool b), qi (.bool (!b))] ⟨qi_stable, qi_stable, qi_stable, qi_stable, qi_stable, qi_stable, qi_stable, qi_stable, qi_stable, qi_stable, trivial⟩ [8] ⟨?_, ?_, ?_, ?_, ?_, ?_, ?_, ?_, ?_, ?_, trivial⟩ ?_
    ·exact stq (fun E => ex_move rfl (E.v oe0))
    ·exact stq (fun E => ex_move rfl (E.v oe5))
    ·exact stq (fun E => ex_idxS (i := k) (s := 34) rfl Try.underlying57 (by kernel_rfl) (E.d 0) (E.d 1) (by first | exact hlt | exact hlt2))
    ·exact stq (fun E => ex_loadA rfl Try.underlying87 rfl (off := o1 + k * 34) (cs := c1) (by rw [HCL1.out]; kernel_rfl) (E.d 2) (fun j u hu => ((HAT1.out.mod E.m.old (by intro k h1 h2; have hb := HBR.out k h1; omega))).2 j u hu))
    ·exact stq (fun E => ex_move rfl (E.v oe1))
    ·exact stq (fun E => ex_move rfl (E.v oe5))
    ·exact stq (fun E => ex_idxS (i := k) (s := 34) rfl Try.underlying57 (by kernel_rfl) (E.d 4) (E.d 5) (by first | exact hlt | exact hlt2))
    ·exact stq (fun E => ex_loadA rfl Try.underlying87 rfl (off := o2 + k * 34) (cs := c2) (by rw [HCL2.out]; kernel_rfl) (E.d 6) (fun j u hu => ((HAT2.out.mod E.m.old (by intro k h1 h2; have hb := HBT.out k h1; omega))).2 j u hu))
    ·exact stepq_chain rfl
    ·exact stq (fun E => ex_not rfl (E.d 8))
    intro u6_0 hr
    have zu6_0 := hr.size
    have Cx1 := hid (hr.new (S := (fun _ => False)))
    clear hr
    refine QChain.go fun Z act E => ?_
    refine qc_callF (args := #[.agg c1.toArray, .agg c2.toArray]) rfl (wanted_none rfl) rfl Try.func121 (args2 (E.d 3) (E.d 7)) (HB.out.symm ▸ Eq_Op _ _ _ _ _ _ _ (HRD1.out.mod Cx1.out (fun _ _ h => h)) (HRD2.out.mod Cx1.out (fun _ _ h => h)) (by intro k h1; have hb := HBR.out k h1; omega) (by intro k h1; have hb := HBT.out k h1; omega)) ?_
    rintro e u6_1a ⟨rfl, hm⟩
    have zu6_1a := hm.size
    refine ⟨_, rfl, hm.mono (fun _ _ h => h.elim), (fun _ => rfl), ?_⟩
    intro u6_1 hr
    have zu6_1 := hr.size
    have Cx2 := hid (Cx1.out.go hm hr)
    clear Cx1 hm hr Z act E
    refine QChain.nil fun vs hl hzz hrows hne => ?_
    obtain ⟨Z, hYZ, hZb, hV⟩ := hzz
    have f0 := fvi hV hl 0
    have f1 := fvi hV hl 1
    have f4 := fvi hV hl 4
    have f5 := fvi hV hl 5
    have f8 := fvi hV hl 8
    have f9 := fvi hV hl 9
    rw [show vs = [gw vs 0, gw vs 1, gw vs 2, gw vs 3, gw vs 4, gw vs 5, gw vs 6, gw vs 7, gw vs 8, gw vs 9] from (gw_eta hl).trans rfl]
    have ha0 := HA0.out
    subst ha0
    clear HA0 hV hYZ hZb hsz0 hrows hne oe0 oe1 oe5
    simp only [putAll, Act.put, List.setIfInBounds_toArray, List.set_cons_zero, List.set_cons_succ, f0, f1, f4, f5, f8, f9]
    clear hl f0 f1 f4 f5 f8 f9
    cases b with
    | false =>
     go_upto_region 7 with (fail)
     refine wp_region_U 27 [4] [0] (fun a0 HA0 => ?_)
     refine QSeq.pure rfl (.bool false) (fun E => ex_assign rfl rfl) ?_
     refine QSeq.nil (t' := [_]) rfl ?_
     obtain rfl := HA0.out
     clear HA0
     simp only [pz, Act.put, List.setIfInBounds_toArray, List.set_cons_zero, List.set_cons_succ]
     go_wp2
     go_ret
     exact ⟨ret_bool (take_ne hlt hlt2 (fun e => by have h := HB.out; rw [HX1.out, HX2.out, e, eqb_rfl] at h; cases h)).symm, (HML.out.trans Cx2.out (fun _ _ h => h.elim))⟩
    | true =>
     go_upto_region 8 with (fail)
     refine wp_region_U 27 [26, 13] [0, 1] (fun a0 HA0 => ?_)
     have oe13 := ev HA0 13 rfl
     refine QSeq.pure rfl (.int .i64 (((k : Nat) : Int) + 1)) (fun E => ex_binE rfl (E.y 1 oe13) rfl (guard_ints _ _ _ _ _ _) (run_add_i _ _ Try.underlying3) (congrArg (Value.int .i64) (IntWalk.i64_in _ (by omega)))) ?_
     refine QSeq.pure rfl _ (fun E => ex_move rfl (E.d 0 0)) ?_
     refine QSeq.nil (t' := [_, _]) rfl ?_
     obtain rfl := HA0.out
     clear HA0 oe13
     simp only [pz, Act.put, List.setIfInBounds_toArray, List.set_cons_zero, List.set_cons_succ]
     go_wp2
     go_roundw
     case rel => exact ⟨k + 1, by go_num, by omega, take_succ2 hlt hlt2 HTK.out (by have h := eqb_iff.1 HB.out.symm; rw [HX1.out, HX2.out] at h; exact h), by omega, (HS2.out.mod Cx2.out (fun _ _ h => h)), (HT2.out.mod Cx2.out (fun _ _ h => h)), (HML.out.trans Cx2.out (fun _ _ h => h.elim))⟩
     case measure => simp [intOf] <;> omega
   ·skip
    go_upto_region 4 with (fail)
    refine wp_region_U 27 [14] [0] (fun a0 HA0 => ?_)
    have oe12 := ev HA0 12 rfl
    have oe13 := ev HA0 13 rfl
    refine QSeq.pure rfl (.bool false) (fun E => ex_binE rfl (E.v oe13) (E.v oe12) (guard_ints _ _ _ _ _ _) (run_lss_i _ _ _ Try.underlying3) (congrArg Value.bool (decide_eq_false (by omega)))) ?_
    refine QSeq.nil (t' := [_]) rfl ?_
    obtain rfl := HA0.out
    clear HA0 oe12 oe13
    simp only [pz, Act.put, List.setIfInBounds_toArray, List.set_cons_zero, List.set_cons_succ]
    go_upto_region 9 with (fail)
    refine wp_region_U 27 [4] [0] (fun a0 HA0 => ?_)
    refine QSeq.pure rfl (.bool true) (fun E => ex_assign rfl rfl) ?_
    refine QSeq.nil (t' := [_]) rfl ?_
    obtain rfl := HA0.out
    clear HA0
    simp only [pz, Act.put, List.setIfInBounds_toArray, List.set_cons_zero, List.set_cons_succ]
    go_wp2
    go_ret
    exact ⟨ret_bool (take_all (by omega) (by have := HLE.out; omega) HTK.out).symm, HML.out⟩
end Go.Proofs.Ytknpapcfhnhheaa

/- gavelkeep: comparisons of tombstones, batches. -/
namespace Go.Proofs.Ytknpapcfhnhheaa
open Go Go.RowKit Go.Gv

set_option maxHeartbeats 4000000 in
theorem EqL_Tb : EqsL TbR 88 := by
 intro R R2 v v2 l m w hs ht hB hB2
 obtain ⟨ao, cap, rfl⟩ := hs.shape
 obtain ⟨bo, bcap, rfl⟩ := ht.shape
 have hlm : l.length ≤ maxLen := hs.bd
 rw [maxLen_val] at hlm
 have HS := Lib.hid hs
 have HT := Lib.hid ht
 have HBR := Lib.hid hB
 have HBT := Lib.hid hB2
 clear hs ht hB hB2
 go_enter Try.func88, Try.ntmps88
 go_upto_region 1 with (fail)
 have HM0 := hid (Mod.refl (fun _ => False) w)
 by_cases hl : l.length = m.length
 rotate_left
 ·skip
  go_upto_region 1 with (fail)
  refine wp_region_U 42 [6, 7, 8, 9, 10] [0, 1, 2, 3, 4] (fun a0 HA0 => ?_)
  have oe0 := ev HA0 0 rfl
  have oe1 := ev HA0 1 rfl
  refine QSeq.pure rfl _ (fun E => ex_move rfl (E.v oe0)) ?_
  refine QSeq.pure rfl (.int .i64 l.length) (fun E => ex_lenS rfl (E.d 0 0) Try.underlying58) ?_
  refine QSeq.pure rfl _ (fun E => ex_move rfl (E.v oe1)) ?_
  refine QSeq.pure rfl (.int .i64 m.length) (fun E => ex_lenS rfl (E.d 2 0) Try.underlying58) ?_
  refine QSeq.pure rfl (.bool true) (fun E => ex_binE rfl (E.d 1 2) (E.d 3 0) (guard_ints _ _ _ _ _ _) (run_neq_i _ _ _ Try.underlying3) (congrArg Value.bool (ne_tt (by omega)))) ?_
  refine QSeq.nil (t' := [_, _, _, _, _]) rfl ?_
  obtain rfl := HA0.out
  clear HA0 oe0 oe1
  simp only [pz, Act.put, List.setIfInBounds_toArray, List.set_cons_zero, List.set_cons_succ]
  go_upto_region 2 with (fail)
  refine wp_region_U 42 [4] [0] (fun a0 HA0 => ?_)
  refine QSeq.pure rfl (.bool false) (fun E => ex_assign rfl rfl) ?_
  refine QSeq.nil (t' := [_]) rfl ?_
  obtain rfl := HA0.out
  clear HA0
  simp only [pz, Act.put, List.setIfInBounds_toArray, List.set_cons_zero, List.set_cons_succ]
  go_wp2
  go_ret
  exact ⟨ret_bool (eqb_ne fun e => hl (by rw [e])).symm, HM0.out⟩
 ·skip
  go_upto_region 1 with (fail)
  refine wp_region_U 42 [6, 7, 8, 9, 10] [0, 1, 2, 3, 4] (fun a0 HA0 => ?_)
  have oe0 := ev HA0 0 rfl
  have oe1 := ev HA0 1 rfl
  refine QSeq.pure rfl _ (fun E => ex_move rfl (E.v oe0)) ?_
  refine QSeq.pure rfl (.int .i64 l.length) (fun E => ex_lenS rfl (E.d 0 0) Try.underlying58) ?_
  refine QSeq.pure rfl _ (fun E => ex_move rfl (E.v oe1)) ?_
  refine QSeq.pure rfl (.int .i64 m.length) (fun E => ex_lenS rfl (E.d 2 0) Try.underlying58) ?_
  refine QSeq.pure rfl (.bool false) (fun E => ex_binE rfl (E.d 1 2) (E.d 3 0) (guard_ints _ _ _ _ _ _) (run_neq_i _ _ _ Try.underlying3) (congrArg Value.bool (ne_ff (by omega)))) ?_
  refine QSeq.nil (t' := [_, _, _, _, _]) rfl ?_
  obtain rfl := HA0.out
  clear HA0 oe0 oe1
  simp only [pz, Act.put, List.setIfInBounds_toArray, List.set_cons_zero, List.set_cons_succ]
  go_upto_region 3 with (fail)
  refine wp_region_U 42 [11, 12, 13] [0, 1, 2] (fun a0 HA0 => ?_)
  have oe0 := ev HA0 0 rfl
  refine QSeq.pure rfl _ (fun E => ex_move rfl (E.v oe0)) ?_
  refine QSeq.pure rfl (.int .i64 l.length) (fun E => ex_lenS rfl (E.d 0 0) Try.underlying58) ?_
  refine QSeq.pure rfl (.int .i64 0) (fun E => ex_move rfl rfl) ?_
  refine QSeq.nil (t' := [_, _, _]) rfl ?_
  obtain rfl := HA0.out
  clear HA0 oe0
  simp only [pz, Act.put, List.setIfInBounds_toArray, List.set_cons_zero, List.set_cons_succ]
  have HLE := Lib.hid hl
  clear hl
  go_wp2
  go_loopw [13, 5] (fun ti t5 wr => ∃ k : Nat, ti = .int .i64 (k : Int) ∧ k ≤ l.length ∧ l.take k = m.take k ∧ w.heap.size ≤ wr.heap.size ∧ RdS TbR R wr (.slice ao l.length cap) l ∧ RdS TbR R2 wr (.slice bo m.length bcap) m ∧ Mod (fun _ => False) w wr) (fun ti t5 _ => l.length - (intOf ti).toNat)
  case atStart => exact ⟨0, rfl, Nat.zero_le _, rfl, Nat.le_refl _, HS.out, HT.out, HM0.out⟩
  case round =>
   obtain ⟨k, rfl, hk, htk, hz, hs, ht, hm⟩ := hrel
   obtain ⟨wl, rfl⟩ : ∃ x, x = wr := ⟨_, rfl⟩
   have HS2 := Lib.hid hs
   have HT2 := Lib.hid ht
   have HML := Lib.hid hm
   have HTK := Lib.hid htk
   clear hs ht hm htk HS HT HM0
   by_cases hlt : k < l.length
   ·have hlt2 : k < m.length := by have := HLE.out; omega
    go_upto_region 4 with (fail)
    refine wp_region_U 42 [14] [0] (fun a0 HA0 => ?_)
    have oe12 := ev HA0 12 rfl
    have oe13 := ev HA0 13 rfl
    refine QSeq.pure rfl (.bool true) (fun E => ex_binE rfl (E.v oe13) (E.v oe12) (guard_ints _ _ _ _ _ _) (run_lss_i _ _ _ Try.underlying3) (congrArg Value.bool (decide_eq_true (by omega)))) ?_
    refine QSeq.nil (t' := [_]) rfl ?_
    obtain rfl := HA0.out
    clear HA0 oe12 oe13
    simp only [pz, Act.put, List.setIfInBounds_toArray, List.set_cons_zero, List.set_cons_succ]
    go_upto_region 5 with (fail)
    refine wp_region_U 42 [15, 5] [0, 1] (fun a0 HA0 => ?_)
    have oe13 := ev HA0 13 rfl
    refine QSeq.pure rfl _ (fun E => ex_move rfl (E.v oe13)) ?_
    refine QSeq.pure rfl _ (fun E => ex_assign rfl (E.d 0 0)) ?_
    refine QSeq.nil (t' := [_, _]) rfl ?_
    obtain rfl := HA0.out
    clear HA0 oe13
    simp only [pz, Act.put, List.setIfInBounds_toArray, List.set_cons_zero, List.set_cons_succ]
    have hat := HS2.out.at hlt
    obtain ⟨g1, o1, c1, eao, hrg, hrd, hcs⟩ := hat
    subst eao
    obtain ⟨x, hx⟩ : ∃ z, z = l[k] := ⟨_, rfl⟩
    rw [← hx] at hrd
    have HX1 := Lib.hid hx
    have hcl : c1.length = 2 := TbR.len hrd
    have HCL1 := Lib.hid hcl
    have HAT1 := hid (show CellsAt R wl g1 (o1 + k * 2) c1 from ⟨hrg, hcs⟩)
    have HRD1 := Lib.hid hrd
    clear hcl hcs hrd hrg hx
    have hat := HT2.out.at hlt2
    obtain ⟨g2, o2, c2, eao, hrg, hrd, hcs⟩ := hat
    subst eao
    obtain ⟨y, hy⟩ : ∃ z, z = m[k] := ⟨_, rfl⟩
    rw [← hy] at hrd
    have HX2 := Lib.hid hy
    have hcl : c2.length = 2 := TbR.len hrd
    have HCL2 := Lib.hid hcl
    have HAT2 := hid (show CellsAt R2 wl g2 (o2 + k * 2) c2 from ⟨hrg, hcs⟩)
    have HRD2 := Lib.hid hrd
    clear hcl hcs hrd hrg hy
    obtain ⟨b, hb⟩ : ∃ b, b = eqb x y := ⟨_, rfl⟩
    have HB := Lib.hid hb
    clear hb
    obtain ⟨v_l1, rfl, hok1, hsl1⟩ := HRD1.out
    obtain ⟨al1, kl1, rfl⟩ := hsl1.shape
    have HSL1 := Lib.hid hsl1
    clear hok1 hsl1
    clear HRD1
    obtain ⟨v_l2, rfl, hok2, hsl2⟩ := HRD2.out
    obtain ⟨al2, kl2, rfl⟩ := hsl2.shape
    have HSL2 := Lib.hid hsl2
    clear hok2 hsl2
    clear HRD2
    go_upto_region 6 with (fail)
    generalize ha0 : Act.mk _ _ = a0
    have oe0 : a0.eval (.tmp 0) = .slice (some ⟨g1, o1, none⟩) l.length cap := by rw [← ha0]; rfl
    have oe1 : a0.eval (.tmp 1) = .slice (some ⟨g2, o2, none⟩) m.length bcap := by rw [← ha0]; rfl
    have oe5 : a0.eval (.tmp 5) = .int .i64 ((k : Nat) : Int) := by rw [← ha0]; rfl
    have hsz0 : a0.tmps.size = 42 := by rw [← ha0]; rfl
    have HA0 := hid ha0
    clear ha0
    refine wp_region_Q0 42 hsz0 [16, 17, 18, 19, 20, 21, 22, 23, 24, 25, 26, 27, 28, 29, 30, 31, 32, 33, 34, 35, 36, 37, 38, 39, 40] [qi (.slice (some ⟨g1, o1, none⟩) l.length cap), qi (.int .i64 ((k : Nat) : Int)), qi (.pointer (some ⟨g1, o1 + k * 2, none⟩)), qi (.pointer (some ⟨g1, o1 + k * 2, none⟩)), qi (.int .i64 x.ix), qi (.slice (some ⟨g2, o2, none⟩) m.length bcap), qi (.int .i64 ((k : Nat) : Int)), qi (.pointer (some ⟨g2, o2 + k * 2, none⟩)), qi (.pointer (some ⟨g2, o2 + k * 2, none⟩)), qi (.int .i64 y.ix), qi (.bool (!(x.ix == y.ix))), qi (.bool (!(x.ix == y.ix))), qc (!(!(x.ix == y.ix))) (qi (.slice (some ⟨g1, o1, none⟩) l.length cap)), qc (!(!(x.ix == y.ix))) (qi (.int .i64 ((k : Nat) : Int))), qc (!(!(x.ix == y.ix))) (qi (.pointer (some ⟨g1, o1 + k * 2, none⟩))), qc (!(!(x.ix == y.ix))) (qi (.pointer (some ⟨g1, o1 + k * 2 + 1, none⟩))), qc (!(!(x.ix == y.ix))) (qi (.slice al1 x.l.length kl1)), qc (!(!(x.ix == y.ix))) (qi (.slice (some ⟨g2, o2, none⟩) m.length bcap)), qc (!(!(x.ix == y.ix))) (qi (.int .i64 ((k : Nat) : Int))), qc (!(!(x.ix == y.ix))) (qi (.pointer (some ⟨g2, o2 + k * 2, none⟩))), qc (!(!(x.ix == y.ix))) (qi (.pointer (some ⟨g2, o2 + k * 2 + 1, none⟩))), qc (!(!(x.ix == y.ix))) (qi (.slice al2 y.l.length kl2)), qc (!(!(x.ix == y.ix))) (qi (.bool (eqb x.l y.l))), qc (!(!(x.ix == y.ix))) (qi (.bool (!(eqb x.l y.l)))), qi (.bool ((!(x.ix == y.ix)) || (!(eqb x.l y.l))))] ⟨qi_stable, qi_stable, qi_stable, qi_stable, qi_stable, qi_stable, qi_stable, qi_stable, qi_stable, qi_stable, qi_stable, qi_stable, (qc_stable qi_stable), (qc_stable qi_stable), (qc_stable qi_stable), (qc_stable qi_stable), (qc_stable qi_stable), (qc_stable qi_stable), (qc_stable qi_stable), (qc_stable qi_stable), (qc_stable qi_stable), (qc_stable qi_stable), (qc_stable qi_stable), (qc_stable qi_stable), qi_stable, trivial⟩ [] ⟨?_, ?_, ?_, ?_, ?_, ?_, ?_, ?_, ?_, ?_, ?_, ?_, ?_, ?_, ?_, ?_, ?_, ?_, ?_, ?_, ?_, ?_, ?_, ?_, ?_, trivial⟩ ?_
    ·exact stq (fun E => ex_move rfl (E.v oe0))
    ·exact stq (fun E => ex_move rfl (E.v oe5))
    ·exact stq (fun E => ex_idxS (i := k) (s := 2) rfl Try.underlying58 (by kernel_rfl) (E.d 0) (E.d 1) (by first | exact hlt | exact hlt2))
    ·exact stq (fun E => ex_field rfl Try.underlying90 rfl (by kernel_rfl) (E.d 2))
    ·exact stq (fun E => ex_load1 rfl Try.underlying3 rfl (E.d 3) ((HAT1.out.mod E.m.old (by intro k h1 h2; have hb := HBR.out k h1; omega)).2 0 _ rfl))
    ·exact stq (fun E => ex_move rfl (E.v oe1))
    ·exact stq (fun E => ex_move rfl (E.v oe5))
    ·exact stq (fun E => ex_idxS (i := k) (s := 2) rfl Try.underlying58 (by kernel_rfl) (E.d 5) (E.d 6) (by first | exact hlt | exact hlt2))
    ·exact stq (fun E => ex_field rfl Try.underlying90 rfl (by kernel_rfl) (E.d 7))
    ·exact stq (fun E => ex_load1 rfl Try.underlying3 rfl (E.d 8) ((HAT2.out.mod E.m.old (by intro k h1 h2; have hb := HBT.out k h1; omega)).2 0 _ rfl))
    ·exact stq (fun E => ex_bin rfl (E.d 4) (E.d 9) (guard_ints _ _ _ _ _ _) (run_neq_i _ _ _ Try.underlying3))
    ·exact stq (fun E => ex_move rfl (E.d 10))
    ·refine stepq_env rfl rfl rfl fun _ _ _ _ _ _ _ hout hsz hd _ _ => ?_
     have h11 := hd ⟨11, .guard⟩ (by simp) rfl _ rfl
     refine qe_guard rfl (b := (!(!(x.ix == y.ix)))) ((wanted_of rfl rfl (hsz 27 (by decide)) h11).trans (by simp)) rfl (fun hb l' hl' => ?_)
     have hb0 := hb
     have hb : (!(x.ix == y.ix)) = false := by simpa using hb
     refine qe_run rfl ((wanted_of rfl rfl (hsz 27 (by decide)) h11).trans (by rw [hb]; rfl)) (ex_move rfl ((hout 0 (by decide)).trans oe0)) QE.refl ?_
     rw [hl']; rfl
    ·refine stepq_env rfl rfl rfl fun _ _ _ _ _ _ _ hout hsz hd _ _ => ?_
     have h11 := hd ⟨11, .guard⟩ (by simp) rfl _ rfl
     refine qe_guard rfl (b := (!(!(x.ix == y.ix)))) ((wanted_of rfl rfl (hsz 27 (by decide)) h11).trans (by simp)) rfl (fun hb l' hl' => ?_)
     have hb0 := hb
     have hb : (!(x.ix == y.ix)) = false := by simpa using hb
     refine qe_run rfl ((wanted_of rfl rfl (hsz 27 (by decide)) h11).trans (by rw [hb]; rfl)) (ex_move rfl ((hout 5 (by decide)).trans oe5)) QE.refl ?_
     rw [hl']; rfl
    ·refine stepq_env rfl rfl rfl fun _ _ _ _ _ _ _ _ hsz hd _ _ => ?_
     have h11 := hd ⟨11, .guard⟩ (by simp) rfl _ rfl
     have h12 := hd ⟨12, .data⟩ (by simp) rfl _ rfl
     have h13 := hd ⟨13, .data⟩ (by simp) rfl _ rfl
     refine qe_guard rfl (b := (!(!(x.ix == y.ix)))) ((wanted_of rfl rfl (hsz 27 (by decide)) h11).trans (by simp)) rfl (fun hb l' hl' => ?_)
     have hb0 := hb
     have hb : (!(x.ix == y.ix)) = false := by simpa using hb
     refine qe_run rfl ((wanted_of rfl rfl (hsz 27 (by decide)) h11).trans (by rw [hb]; rfl)) (ex_idxS (i := k) (s := 2) rfl Try.underlying58 (by kernel_rfl) (h12.1 hb0) (h13.1 hb0) (by first | exact hlt | exact hlt2)) QE.refl ?_
     rw [hl']; rfl
    ·refine stepq_env rfl rfl rfl fun _ _ _ _ _ _ _ _ hsz hd _ _ => ?_
     have h11 := hd ⟨11, .guard⟩ (by simp) rfl _ rfl
     have h14 := hd ⟨14, .data⟩ (by simp) rfl _ rfl
     refine qe_guard rfl (b := (!(!(x.ix == y.ix)))) ((wanted_of rfl rfl (hsz 27 (by decide)) h11).trans (by simp)) rfl (fun hb l' hl' => ?_)
     have hb0 := hb
     have hb : (!(x.ix == y.ix)) = false := by simpa using hb
     refine qe_run rfl ((wanted_of rfl rfl (hsz 27 (by decide)) h11).trans (by rw [hb]; rfl)) (ex_field rfl Try.underlying90 rfl (by kernel_rfl) (h14.1 hb0)) QE.refl ?_
     rw [hl']; rfl
    ·refine stepq_env rfl rfl rfl fun _ _ _ _ _ hm _ _ hsz hd _ _ => ?_
     have h11 := hd ⟨11, .guard⟩ (by simp) rfl _ rfl
     have h15 := hd ⟨15, .data⟩ (by simp) rfl _ rfl
     refine qe_guard rfl (b := (!(!(x.ix == y.ix)))) ((wanted_of rfl rfl (hsz 27 (by decide)) h11).trans (by simp)) rfl (fun hb l' hl' => ?_)
     have hb0 := hb
     have hb : (!(x.ix == y.ix)) = false := by simpa using hb
     refine qe_run rfl ((wanted_of rfl rfl (hsz 27 (by decide)) h11).trans (by rw [hb]; rfl)) (ex_load1 rfl Try.underlying88 rfl (h15.1 hb0) ((HAT1.out.mod hm.old (by intro k h1 h2; have hb := HBR.out k h1; omega)).2 1 _ rfl)) QE.refl ?_
     rw [hl']; rfl
    ·refine stepq_env rfl rfl rfl fun _ _ _ _ _ _ _ hout hsz hd _ _ => ?_
     have h11 := hd ⟨11, .guard⟩ (by simp) rfl _ rfl
     refine qe_guard rfl (b := (!(!(x.ix == y.ix)))) ((wanted_of rfl rfl (hsz 27 (by decide)) h11).trans (by simp)) rfl (fun hb l' hl' => ?_)
     have hb0 := hb
     have hb : (!(x.ix == y.ix)) = false := by simpa using hb
     refine qe_run rfl ((wanted_of rfl rfl (hsz 27 (by decide)) h11).trans (by rw [hb]; rfl)) (ex_move rfl ((hout 1 (by decide)).trans oe1)) QE.refl ?_
     rw [hl']; rfl
    ·refine stepq_env rfl rfl rfl fun _ _ _ _ _ _ _ hout hsz hd _ _ => ?_
     have h11 := hd ⟨11, .guard⟩ (by simp) rfl _ rfl
     refine qe_guard rfl (b := (!(!(x.ix == y.ix)))) ((wanted_of rfl rfl (hsz 27 (by decide)) h11).trans (by simp)) rfl (fun hb l' hl' => ?_)
     have hb0 := hb
     have hb : (!(x.ix == y.ix)) = false := by simpa using hb
     refine qe_run rfl ((wanted_of rfl rfl (hsz 27 (by decide)) h11).trans (by rw [hb]; rfl)) (ex_move rfl ((hout 5 (by decide)).trans oe5)) QE.refl ?_
     rw [hl']; rfl
    ·refine stepq_env rfl rfl rfl fun _ _ _ _ _ _ _ _ hsz hd _ _ => ?_
     have h11 := hd ⟨11, .guard⟩ (by simp) rfl _ rfl
     have h17 := hd ⟨17, .data⟩ (by simp) rfl _ rfl
     have h18 := hd ⟨18, .data⟩ (by simp) rfl _ rfl
     refine qe_guard rfl (b := (!(!(x.ix == y.ix)))) ((wanted_of rfl rfl (hsz 27 (by decide)) h11).trans (by simp)) rfl (fun hb l' hl' => ?_)
     have hb0 := hb
     have hb : (!(x.ix == y.ix)) = false := by simpa using hb
     refine qe_run rfl ((wanted_of rfl rfl (hsz 27 (by decide)) h11).trans (by rw [hb]; rfl)) (ex_idxS (i := k) (s := 2) rfl Try.underlying58 (by kernel_rfl) (h17.1 hb0) (h18.1 hb0) (by first | exact hlt | exact hlt2)) QE.refl ?_
     rw [hl']; rfl
    ·refine stepq_env rfl rfl rfl fun _ _ _ _ _ _ _ _ hsz hd _ _ => ?_
     have h11 := hd ⟨11, .guard⟩ (by simp) rfl _ rfl
     have h19 := hd ⟨19, .data⟩ (by simp) rfl _ rfl
     refine qe_guard rfl (b := (!(!(x.ix == y.ix)))) ((wanted_of rfl rfl (hsz 27 (by decide)) h11).trans (by simp)) rfl (fun hb l' hl' => ?_)
     have hb0 := hb
     have hb : (!(x.ix == y.ix)) = false := by simpa using hb
     refine qe_run rfl ((wanted_of rfl rfl (hsz 27 (by decide)) h11).trans (by rw [hb]; rfl)) (ex_field rfl Try.underlying90 rfl (by kernel_rfl) (h19.1 hb0)) QE.refl ?_
     rw [hl']; rfl
    ·refine stepq_env rfl rfl rfl fun _ _ _ _ _ hm _ _ hsz hd _ _ => ?_
     have h11 := hd ⟨11, .guard⟩ (by simp) rfl _ rfl
     have h20 := hd ⟨20, .data⟩ (by simp) rfl _ rfl
     refine qe_guard rfl (b := (!(!(x.ix == y.ix)))) ((wanted_of rfl rfl (hsz 27 (by decide)) h11).trans (by simp)) rfl (fun hb l' hl' => ?_)
     have hb0 := hb
     have hb : (!(x.ix == y.ix)) = false := by simpa using hb
     refine qe_run rfl ((wanted_of rfl rfl (hsz 27 (by decide)) h11).trans (by rw [hb]; rfl)) (ex_load1 rfl Try.underlying88 rfl (h20.1 hb0) ((HAT2.out.mod hm.old (by intro k h1 h2; have hb := HBT.out k h1; omega)).2 1 _ rfl)) QE.refl ?_
     rw [hl']; rfl
    ·refine stepq_env rfl rfl rfl fun _ _ _ _ _ hm _ _ hsz hd _ _ => ?_
     have h11 := hd ⟨11, .chain⟩ (by simp) rfl _ rfl
     have h16 := hd ⟨16, .data⟩ (by simp) rfl _ rfl
     have h21 := hd ⟨21, .data⟩ (by simp) rfl _ rfl
     refine qe_guard rfl (b := (!(!(x.ix == y.ix)))) ((wanted_of rfl rfl (hsz 27 (by decide)) h11).trans (by simp)) rfl (fun hb l' hl' => ?_)
     have hb0 := hb
     have hb : (!(x.ix == y.ix)) = false := by simpa using hb
     refine qe_callF (args := #[.slice al1 x.l.length kl1, .slice al2 y.l.length kl2]) rfl ((wanted_of rfl rfl (hsz 27 (by decide)) h11).trans (by rw [hb]; rfl)) rfl Try.func122 (args2 (h16.1 hb0) (h21.1 hb0)) (EqL_Dn _ _ _ _ _ _ _ (HSL1.out.mod hm.old (by intro k h1 h2; have hb := HBR.out k h1; omega)) (HSL2.out.mod hm.old (by intro k h1 h2; have hb := HBT.out k h1; omega)) (by intro k h1; have hb := HBR.out k h1; (try have := hm.size); omega) (by intro k h1; have hb := HBT.out k h1; (try have := hm.size); omega)) ?_
     rintro e w2 ⟨rfl, hm2⟩
     exact ⟨_, rfl, QE.still hm2, (by rw [hl']; rfl)⟩
    ·refine stepq_env rfl rfl rfl fun _ _ _ _ _ _ _ _ hsz hd _ _ => ?_
     have h11 := hd ⟨11, .guard⟩ (by simp) rfl _ rfl
     have h22 := hd ⟨22, .data⟩ (by simp) rfl _ rfl
     refine qe_guard rfl (b := (!(!(x.ix == y.ix)))) ((wanted_of rfl rfl (hsz 27 (by decide)) h11).trans (by simp)) rfl (fun hb l' hl' => ?_)
     have hb0 := hb
     have hb : (!(x.ix == y.ix)) = false := by simpa using hb
     refine qe_run rfl ((wanted_of rfl rfl (hsz 27 (by decide)) h11).trans (by rw [hb]; rfl)) (ex_not rfl (h22.1 hb0)) QE.refl ?_
     rw [hl']; rfl
    ·exact stq (fun E => ex_pickE rfl (E.d 11) rfl rfl (or_val fun hb => (E.d 23).1 (by rw [hb]; rfl)))
    intro u6_0 hr
    have zu6_0 := hr.size
    have Cx1 := hid (hr.new (S := (fun _ => False)))
    clear hr
    refine QChain.nil fun vs hl hzz hrows hne => ?_
    obtain ⟨Z, hYZ, hZb, hV⟩ := hzz
    have f0 := fvi hV hl 0
    have f1 := fvi hV hl 1
    have f5 := fvi hV hl 5
    have f6 := fvi hV hl 6
    have f11 := fvi hV hl 11
    have f24 := fvi hV hl 24
    rw [show vs = [gw vs 0, gw vs 1, gw vs 2, gw vs 3, gw vs 4, gw vs 5, gw vs 6, gw vs 7, gw vs 8, gw vs 9, gw vs 10, gw vs 11, gw vs 12, gw vs 13, gw vs 14, gw vs 15, gw vs 16, gw vs 17, gw vs 18, gw vs 19, gw vs 20, gw vs 21, gw vs 22, gw vs 23, gw vs 24] from (gw_eta hl).trans rfl]
    have ha0 := HA0.out
    subst ha0
    clear HA0 hV hYZ hZb hsz0 hrows hne oe0 oe1 oe5
    simp only [putAll, Act.put, List.setIfInBounds_toArray, List.set_cons_zero, List.set_cons_succ, f0, f1, f5, f6, f11, f24]
    clear hl f0 f1 f5 f6 f11 f24
    rw [tb_eqb, ← HB.out]
    cases b with
    | false =>
     go_upto_region 7 with (fail)
     refine wp_region_U 42 [4] [0] (fun a0 HA0 => ?_)
     refine QSeq.pure rfl (.bool false) (fun E => ex_assign rfl rfl) ?_
     refine QSeq.nil (t' := [_]) rfl ?_
     obtain rfl := HA0.out
     clear HA0
     simp only [pz, Act.put, List.setIfInBounds_toArray, List.set_cons_zero, List.set_cons_succ]
     go_wp2
     go_ret
     exact ⟨ret_bool (take_ne hlt hlt2 (fun e => by have h := HB.out; rw [HX1.out, HX2.out, e, eqb_rfl] at h; cases h)).symm, (HML.out.trans Cx1.out (fun _ _ h => h.elim))⟩
    | true =>
     go_upto_region 8 with (fail)
     refine wp_region_U 42 [41, 13] [0, 1] (fun a0 HA0 => ?_)
     have oe13 := ev HA0 13 rfl
     refine QSeq.pure rfl (.int .i64 (((k : Nat) : Int) + 1)) (fun E => ex_binE rfl (E.y 1 oe13) rfl (guard_ints _ _ _ _ _ _) (run_add_i _ _ Try.underlying3) (congrArg (Value.int .i64) (IntWalk.i64_in _ (by omega)))) ?_
     refine QSeq.pure rfl _ (fun E => ex_move rfl (E.d 0 0)) ?_
     refine QSeq.nil (t' := [_, _]) rfl ?_
     obtain rfl := HA0.out
     clear HA0 oe13
     simp only [pz, Act.put, List.setIfInBounds_toArray, List.set_cons_zero, List.set_cons_succ]
     go_wp2
     go_roundw
     case rel => exact ⟨k + 1, by go_num, by omega, take_succ2 hlt hlt2 HTK.out (by have h := eqb_iff.1 HB.out.symm; rw [HX1.out, HX2.out] at h; exact h), by omega, (HS2.out.mod Cx1.out (fun _ _ h => h)), (HT2.out.mod Cx1.out (fun _ _ h => h)), (HML.out.trans Cx1.out (fun _ _ h => h.elim))⟩
     case measure => simp [intOf] <;> omega
   ·skip
    go_upto_region 4 with (fail)
    refine wp_region_U 42 [14] [0] (fun a0 HA0 => ?_)
    have oe12 := ev HA0 12 rfl
    have oe13 := ev HA0 13 rfl
    refine QSeq.pure rfl (.bool false) (fun E => ex_binE rfl (E.v oe13) (E.v oe12) (guard_ints _ _ _ _ _ _) (run_lss_i _ _ _ Try.underlying3) (congrArg Value.bool (decide_eq_false (by omega)))) ?_
    refine QSeq.nil (t' := [_]) rfl ?_
    obtain rfl := HA0.out
    clear HA0 oe12 oe13
    simp only [pz, Act.put, List.setIfInBounds_toArray, List.set_cons_zero, List.set_cons_succ]
    go_upto_region 9 with (fail)
    refine wp_region_U 42 [4] [0] (fun a0 HA0 => ?_)
    refine QSeq.pure rfl (.bool true) (fun E => ex_assign rfl rfl) ?_
    refine QSeq.nil (t' := [_]) rfl ?_
    obtain rfl := HA0.out
    clear HA0
    simp only [pz, Act.put, List.setIfInBounds_toArray, List.set_cons_zero, List.set_cons_succ]
    go_wp2
    go_ret
    exact ⟨ret_bool (take_all (by omega) (by have := HLE.out; omega) HTK.out).symm, HML.out⟩
set_option maxHeartbeats 8000000 in
theorem Eq_Ba : Eqs BaR 36 := by
 intro R R2 cs ds x y w hx hy hB hB2
 obtain ⟨vx_ps, vx_os, vx_ts, rfl, hokx, hx_ps, hx_os, hx_ts⟩ := hx
 obtain ⟨ax_ps, kx_ps, rfl⟩ := hx_ps.shape
 have Hx_ps := Lib.hid hx_ps
 clear hx_ps
 obtain ⟨ax_os, kx_os, rfl⟩ := hx_os.shape
 have Hx_os := Lib.hid hx_os
 clear hx_os
 obtain ⟨ax_ts, kx_ts, rfl⟩ := hx_ts.shape
 have Hx_ts := Lib.hid hx_ts
 clear hx_ts
 have HOKx := Lib.hid hokx
 clear hokx
 obtain ⟨vy_ps, vy_os, vy_ts, rfl, hoky, hy_ps, hy_os, hy_ts⟩ := hy
 obtain ⟨ay_ps, ky_ps, rfl⟩ := hy_ps.shape
 have Hy_ps := Lib.hid hy_ps
 clear hy_ps
 obtain ⟨ay_os, ky_os, rfl⟩ := hy_os.shape
 have Hy_os := Lib.hid hy_os
 clear hy_os
 obtain ⟨ay_ts, ky_ts, rfl⟩ := hy_ts.shape
 have Hy_ts := Lib.hid hy_ts
 clear hy_ts
 have HOKy := Lib.hid hoky
 clear hoky
 have HBR := Lib.hid hB
 have HBT := Lib.hid hB2
 clear hB hB2
 go_enter Try.func36, Try.ntmps36
 go_upto_region 1 with (fail)
 obtain ⟨w1, hw1⟩ : ∃ zz, zz = ((w.alloc (.cells (x.cells (.slice ax_ps x.ps.length kx_ps) (.slice ax_os x.os.length kx_os) (.slice ax_ts x.ts.length kx_ts) : List Value).toArray 60)).alloc (.cells (y.cells (.slice ay_ps y.ps.length ky_ps) (.slice ay_os y.os.length ky_os) (.slice ay_ts y.ts.length ky_ts) : List Value).toArray 60)) := ⟨_, rfl⟩
 change Code.wp _ _ _ _ ((w.alloc (.cells (x.cells (.slice ax_ps x.ps.length kx_ps) (.slice ax_os x.os.length kx_os) (.slice ax_ts x.ts.length kx_ts) : List Value).toArray 60)).alloc (.cells (y.cells (.slice ay_ps y.ps.length ky_ps) (.slice ay_os y.os.length ky_os) (.slice ay_ts y.ts.length ky_ts) : List Value).toArray 60))
 rw [← hw1]
 have HB2 := hid (show Cs w1 (w.heap.size) (x.cells (.slice ax_ps x.ps.length kx_ps) (.slice ax_os x.os.length kx_os) (.slice ax_ts x.ts.length kx_ts) : List Value).toArray 60 by rw [hw1]; exact (Cs.new _ _ _).alloc _)
 have HB3 := hid (show Cs w1 (w.heap.size + 1) (y.cells (.slice ay_ps y.ps.length ky_ps) (.slice ay_os y.os.length ky_os) (.slice ay_ts y.ts.length ky_ts) : List Value).toArray 60 by rw [hw1]; exact Cs_newN _ _ _ (by simp))
 have hm : Mod (fun _ => False) w w1 := by rw [hw1]; exact ((Mod.refl _ _).alloc _).alloc _
 have HM0 := hid (show Mod (fun _ => False) w w1 from hm.mono (fun _ _ h => h.elim))
 have hs1 : w1.heap.size = w.heap.size + 2 := by rw [hw1]; simp
 have Hx1 := hid (Hx_ps.out.mod hm (fun _ _ h => h))
 clear Hx_ps
 have Hx2 := hid (Hx_os.out.mod hm (fun _ _ h => h))
 clear Hx_os
 have Hx3 := hid (Hx_ts.out.mod hm (fun _ _ h => h))
 clear Hx_ts
 have Hx4 := hid (Hy_ps.out.mod hm (fun _ _ h => h))
 clear Hy_ps
 have Hx5 := hid (Hy_os.out.mod hm (fun _ _ h => h))
 clear Hy_os
 have Hx6 := hid (Hy_ts.out.mod hm (fun _ _ h => h))
 clear Hy_ts
 clear hw1 hm
 have hlx : x.ps.length ≤ maxLen := Hx1.out.bd
 have hly : y.ps.length ≤ maxLen := Hx4.out.bd
 rw [maxLen_val] at hlx hly
 go_upto_region 1 with (fail)
 refine wp_region_U 62 [6, 7, 8, 9, 10, 11, 12, 13, 14, 15, 16, 17, 18, 19, 20, 21, 22, 23, 24, 25, 26, 27, 28, 29, 30, 31, 32, 33, 34, 35, 36, 37, 38, 39, 40, 41, 42] [0, 1, 2, 3, 4, 5, 6, 7, 8, 9, 10, 11, 12, 13, 14, 15, 16, 17, 18, 19, 20, 21, 22, 23, 24, 25, 26, 27, 28, 29, 30, 31, 32, 33, 34, 35, 36] (fun a0 HA0 => ?_)
 have oe2 := ev HA0 2 rfl
 have oe3 := ev HA0 3 rfl
 refine QSeq.pure rfl (.pointer (some ⟨w.heap.size, 0, none⟩)) (fun E => ex_field rfl Try.underlying60 rfl (by kernel_rfl) (E.v oe2)) ?_
 refine QSeq.pure rfl _ (fun E => ex_load1 rfl Try.underlying3 rfl (E.d 0 0) (Cs.lit1 HB2.out rfl)) ?_
 refine QSeq.pure rfl (.pointer (some ⟨w.heap.size + 1, 0, none⟩)) (fun E => ex_field rfl Try.underlying60 rfl (by kernel_rfl) (E.v oe3)) ?_
 refine QSeq.pure rfl _ (fun E => ex_load1 rfl Try.underlying3 rfl (E.d 2 0) (Cs.lit1 HB3.out rfl)) ?_
 refine QSeq.pure rfl (.bool (!(x.ep == y.ep))) (fun E => ex_bin rfl (E.d 1 2) (E.d 3 0) (guard_ints _ _ _ _ _ _) (run_neq_i _ _ _ Try.underlying3)) ?_
 refine QSeq.pure rfl _ (fun E => ex_move rfl (E.d 4 0)) ?_
 refine QSeq.may (b := (!(!(x.ep == y.ep)))) rfl (.pointer (some ⟨w.heap.size, 1, none⟩)) (fun E => ((wanted_of rfl rfl (E.sz 11 (by decide)) (E.d 5 0)).trans (beq_f _))) (fun E hb0 => (by have hb : (!(x.ep == y.ep)) = false := (by simpa using hb0); exact ex_field rfl Try.underlying60 rfl (by kernel_rfl) (E.v oe2))) ?_
 intro v1_6 hw
 have hv1_6 := hid hw
 clear hw
 refine QSeq.may (b := (!(!(x.ep == y.ep)))) rfl (.int .u64 (x.tm : Nat)) (fun E => ((wanted_of rfl rfl (E.sz 11 (by decide)) (E.d 5 1)).trans (beq_f _))) (fun E hb0 => (by have hb : (!(x.ep == y.ep)) = false := (by simpa using hb0); exact ex_load1 rfl Try.underlying26 rfl ((E.q 6 0 hv1_6.out).1 hb0) (Cs.lit1 HB2.out rfl))) ?_
 intro v1_7 hw
 have hv1_7 := hid hw
 clear hw
 refine QSeq.may (b := (!(!(x.ep == y.ep)))) rfl (.pointer (some ⟨w.heap.size + 1, 1, none⟩)) (fun E => ((wanted_of rfl rfl (E.sz 11 (by decide)) (E.d 5 2)).trans (beq_f _))) (fun E hb0 => (by have hb : (!(x.ep == y.ep)) = false := (by simpa using hb0); exact ex_field rfl Try.underlying60 rfl (by kernel_rfl) (E.v oe3))) ?_
 intro v1_8 hw
 have hv1_8 := hid hw
 clear hw
 refine QSeq.may (b := (!(!(x.ep == y.ep)))) rfl (.int .u64 (y.tm : Nat)) (fun E => ((wanted_of rfl rfl (E.sz 11 (by decide)) (E.d 5 3)).trans (beq_f _))) (fun E hb0 => (by have hb : (!(x.ep == y.ep)) = false := (by simpa using hb0); exact ex_load1 rfl Try.underlying26 rfl ((E.q 8 0 hv1_8.out).1 hb0) (Cs.lit1 HB3.out rfl))) ?_
 intro v1_9 hw
 have hv1_9 := hid hw
 clear hw
 refine QSeq.may (b := (!(!(x.ep == y.ep)))) rfl (.bool (!(((x.tm : Nat) : Int) == ((y.tm : Nat) : Int)))) (fun E => ((wanted_of rfl rfl (E.sz 11 (by decide)) (E.d 5 4)).trans (beq_f _))) (fun E hb0 => (by have hb : (!(x.ep == y.ep)) = false := (by simpa using hb0); exact ex_bin rfl ((E.q 7 2 hv1_7.out).1 hb0) ((E.q 9 0 hv1_9.out).1 hb0) (guard_ints _ _ _ _ _ _) (run_neq_i _ _ _ Try.underlying26))) ?_
 intro v1_10 hw
 have hv1_10 := hid hw
 clear hw
 refine QSeq.pure rfl (.bool ((!(x.ep == y.ep)) || (!(((x.tm : Nat) : Int) == ((y.tm : Nat) : Int))))) (fun E => ex_pickE rfl (E.d 5 5) rfl rfl (or_val fun hb => (E.q 10 0 hv1_10.out).1 (by rw [hb]; rfl))) ?_
 refine QSeq.pure rfl _ (fun E => ex_move rfl (E.d 11 0)) ?_
 refine QSeq.may (b := (!((!(x.ep == y.ep)) || (!(((x.tm : Nat) : Int) == ((y.tm : Nat) : Int)))))) rfl (.pointer (some ⟨w.heap.size, 2, none⟩)) (fun E => ((wanted_of rfl rfl (E.sz 18 (by decide)) (E.d 12 0)).trans (beq_f _))) (fun E hb0 => (by have hb : ((!(x.ep == y.ep)) || (!(((x.tm : Nat) : Int) == ((y.tm : Nat) : Int)))) = false := (by simpa using hb0); exact ex_field rfl Try.underlying60 rfl (by kernel_rfl) (E.v oe2))) ?_
 intro v1_13 hw
 have hv1_13 := hid hw
 clear hw
 refine QSeq.may (b := (!((!(x.ep == y.ep)) || (!(((x.tm : Nat) : Int) == ((y.tm : Nat) : Int)))))) rfl (.slice ax_ps x.ps.length kx_ps) (fun E => ((wanted_of rfl rfl (E.sz 18 (by decide)) (E.d 12 1)).trans (beq_f _))) (fun E hb0 => (by have hb : ((!(x.ep == y.ep)) || (!(((x.tm : Nat) : Int) == ((y.tm : Nat) : Int)))) = false := (by simpa using hb0); exact ex_load1 rfl Try.underlying56 rfl ((E.q 13 0 hv1_13.out).1 hb0) (Cs.lit1 HB2.out rfl))) ?_
 intro v1_14 hw
 have hv1_14 := hid hw
 clear hw
 refine QSeq.may (b := (!((!(x.ep == y.ep)) || (!(((x.tm : Nat) : Int) == ((y.tm : Nat) : Int)))))) rfl (.int .i64 x.ps.length) (fun E => ((wanted_of rfl rfl (E.sz 18 (by decide)) (E.d 12 2)).trans (beq_f _))) (fun E hb0 => (by have hb : ((!(x.ep == y.ep)) || (!(((x.tm : Nat) : Int) == ((y.tm : Nat) : Int)))) = false := (by simpa using hb0); exact ex_lenS rfl ((E.q 14 0 hv1_14.out).1 hb0) Try.underlying56)) ?_
 intro v1_15 hw
 have hv1_15 := hid hw
 clear hw
 refine QSeq.may (b := (!((!(x.ep == y.ep)) || (!(((x.tm : Nat) : Int) == ((y.tm : Nat) : Int)))))) rfl (.pointer (some ⟨w.heap.size + 1, 2, none⟩)) (fun E => ((wanted_of rfl rfl (E.sz 18 (by decide)) (E.d 12 3)).trans (beq_f _))) (fun E hb0 => (by have hb : ((!(x.ep == y.ep)) || (!(((x.tm : Nat) : Int) == ((y.tm : Nat) : Int)))) = false := (by simpa using hb0); exact ex_field rfl Try.underlying60 rfl (by kernel_rfl) (E.v oe3))) ?_
 intro v1_16 hw
 have hv1_16 := hid hw
 clear hw
 refine QSeq.may (b := (!((!(x.ep == y.ep)) || (!(((x.tm : Nat) : Int) == ((y.tm : Nat) : Int)))))) rfl (.slice ay_ps y.ps.length ky_ps) (fun E => ((wanted_of rfl rfl (E.sz 18 (by decide)) (E.d 12 4)).trans (beq_f _))) (fun E hb0 => (by have hb : ((!(x.ep == y.ep)) || (!(((x.tm : Nat) : Int) == ((y.tm : Nat) : Int)))) = false := (by simpa using hb0); exact ex_load1 rfl Try.underlying56 rfl ((E.q 16 0 hv1_16.out).1 hb0) (Cs.lit1 HB3.out rfl))) ?_
 intro v1_17 hw
 have hv1_17 := hid hw
 clear hw
 refine QSeq.may (b := (!((!(x.ep == y.ep)) || (!(((x.tm : Nat) : Int) == ((y.tm : Nat) : Int)))))) rfl (.int .i64 y.ps.length) (fun E => ((wanted_of rfl rfl (E.sz 18 (by decide)) (E.d 12 5)).trans (beq_f _))) (fun E hb0 => (by have hb : ((!(x.ep == y.ep)) || (!(((x.tm : Nat) : Int) == ((y.tm : Nat) : Int)))) = false := (by simpa using hb0); exact ex_lenS rfl ((E.q 17 0 hv1_17.out).1 hb0) Try.underlying56)) ?_
 intro v1_18 hw
 have hv1_18 := hid hw
 clear hw
 refine QSeq.may (b := (!((!(x.ep == y.ep)) || (!(((x.tm : Nat) : Int) == ((y.tm : Nat) : Int)))))) rfl (.bool (!(((x.ps.length : Nat) : Int) == ((y.ps.length : Nat) : Int)))) (fun E => ((wanted_of rfl rfl (E.sz 18 (by decide)) (E.d 12 6)).trans (beq_f _))) (fun E hb0 => (by have hb : ((!(x.ep == y.ep)) || (!(((x.tm : Nat) : Int) == ((y.tm : Nat) : Int)))) = false := (by simpa using hb0); exact ex_bin rfl ((E.q 15 3 hv1_15.out).1 hb0) ((E.q 18 0 hv1_18.out).1 hb0) (guard_ints _ _ _ _ _ _) (run_neq_i _ _ _ Try.underlying3))) ?_
 intro v1_19 hw
 have hv1_19 := hid hw
 clear hw
 refine QSeq.pure rfl (.bool (((!(x.ep == y.ep)) || (!(((x.tm : Nat) : Int) == ((y.tm : Nat) : Int)))) || (!(((x.ps.length : Nat) : Int) == ((y.ps.length : Nat) : Int))))) (fun E => ex_pickE rfl (E.d 12 7) rfl rfl (or_val fun hb => (E.q 19 0 hv1_19.out).1 (by rw [hb]; rfl))) ?_
 refine QSeq.pure rfl _ (fun E => ex_move rfl (E.d 20 0)) ?_
 refine QSeq.may (b := (!(((!(x.ep == y.ep)) || (!(((x.tm : Nat) : Int) == ((y.tm : Nat) : Int)))) || (!(((x.ps.length : Nat) : Int) == ((y.ps.length : Nat) : Int)))))) rfl (.pointer (some ⟨w.heap.size, 3, none⟩)) (fun E => ((wanted_of rfl rfl (E.sz 27 (by decide)) (E.d 21 0)).trans (beq_f _))) (fun E hb0 => (by have hb : (((!(x.ep == y.ep)) || (!(((x.tm : Nat) : Int) == ((y.tm : Nat) : Int)))) || (!(((x.ps.length : Nat) : Int) == ((y.ps.length : Nat) : Int)))) = false := (by simpa using hb0); exact ex_field rfl Try.underlying60 rfl (by kernel_rfl) (E.v oe2))) ?_
 intro v1_22 hw
 have hv1_22 := hid hw
 clear hw
 refine QSeq.may (b := (!(((!(x.ep == y.ep)) || (!(((x.tm : Nat) : Int) == ((y.tm : Nat) : Int)))) || (!(((x.ps.length : Nat) : Int) == ((y.ps.length : Nat) : Int)))))) rfl (.slice ax_os x.os.length kx_os) (fun E => ((wanted_of rfl rfl (E.sz 27 (by decide)) (E.d 21 1)).trans (beq_f _))) (fun E hb0 => (by have hb : (((!(x.ep == y.ep)) || (!(((x.tm : Nat) : Int) == ((y.tm : Nat) : Int)))) || (!(((x.ps.length : Nat) : Int) == ((y.ps.length : Nat) : Int)))) = false := (by simpa using hb0); exact ex_load1 rfl Try.underlying57 rfl ((E.q 22 0 hv1_22.out).1 hb0) (Cs.lit1 HB2.out rfl))) ?_
 intro v1_23 hw
 have hv1_23 := hid hw
 clear hw
 refine QSeq.may (b := (!(((!(x.ep == y.ep)) || (!(((x.tm : Nat) : Int) == ((y.tm : Nat) : Int)))) || (!(((x.ps.length : Nat) : Int) == ((y.ps.length : Nat) : Int)))))) rfl (.pointer (some ⟨w.heap.size + 1, 3, none⟩)) (fun E => ((wanted_of rfl rfl (E.sz 27 (by decide)) (E.d 21 2)).trans (beq_f _))) (fun E hb0 => (by have hb : (((!(x.ep == y.ep)) || (!(((x.tm : Nat) : Int) == ((y.tm : Nat) : Int)))) || (!(((x.ps.length : Nat) : Int) == ((y.ps.length : Nat) : Int)))) = false := (by simpa using hb0); exact ex_field rfl Try.underlying60 rfl (by kernel_rfl) (E.v oe3))) ?_
 intro v1_24 hw
 have hv1_24 := hid hw
 clear hw
 refine QSeq.may (b := (!(((!(x.ep == y.ep)) || (!(((x.tm : Nat) : Int) == ((y.tm : Nat) : Int)))) || (!(((x.ps.length : Nat) : Int) == ((y.ps.length : Nat) : Int)))))) rfl (.slice ay_os y.os.length ky_os) (fun E => ((wanted_of rfl rfl (E.sz 27 (by decide)) (E.d 21 3)).trans (beq_f _))) (fun E hb0 => (by have hb : (((!(x.ep == y.ep)) || (!(((x.tm : Nat) : Int) == ((y.tm : Nat) : Int)))) || (!(((x.ps.length : Nat) : Int) == ((y.ps.length : Nat) : Int)))) = false := (by simpa using hb0); exact ex_load1 rfl Try.underlying57 rfl ((E.q 24 0 hv1_24.out).1 hb0) (Cs.lit1 HB3.out rfl))) ?_
 intro v1_25 hw
 have hv1_25 := hid hw
 clear hw
 refine QSeq.mayCall (b := (!(((!(x.ep == y.ep)) || (!(((x.tm : Nat) : Int) == ((y.tm : Nat) : Int)))) || (!(((x.ps.length : Nat) : Int) == ((y.ps.length : Nat) : Int)))))) rfl (.bool (eqb x.os y.os)) (args := #[.slice ax_os x.os.length kx_os, .slice ay_os y.os.length ky_os]) (fun E => ((wanted_of rfl rfl (E.sz 27 (by decide)) (E.d 21 4)).trans (beq_f _))) rfl Try.func87 (fun E hb0 => (by have hb : (((!(x.ep == y.ep)) || (!(((x.tm : Nat) : Int) == ((y.tm : Nat) : Int)))) || (!(((x.ps.length : Nat) : Int) == ((y.ps.length : Nat) : Int)))) = false := (by simpa using hb0); exact args2 ((E.q 23 2 hv1_23.out).1 hb0) ((E.q 25 0 hv1_25.out).1 hb0))) (fun hb0 => (by have hb : (((!(x.ep == y.ep)) || (!(((x.tm : Nat) : Int) == ((y.tm : Nat) : Int)))) || (!(((x.ps.length : Nat) : Int) == ((y.ps.length : Nat) : Int)))) = false := (by simpa using hb0); exact EqL_Op _ _ _ _ _ _ _ Hx2.out Hx5.out (by intro k h1; have hb := HBR.out k h1; (try have := hm.size); omega) (by intro k h1; have hb := HBT.out k h1; (try have := hm.size); omega))) ?_
 intro v1_26 u1_26 hw hm
 have hv1_26 := hid hw
 clear hw
 have zu1_26 := hm.size
 have Cx7 := hid (show Mod (fun _ => False) w1 u1_26 from hm)
 clear hm
 refine QSeq.may (b := (!(((!(x.ep == y.ep)) || (!(((x.tm : Nat) : Int) == ((y.tm : Nat) : Int)))) || (!(((x.ps.length : Nat) : Int) == ((y.ps.length : Nat) : Int)))))) rfl (.bool (!(eqb x.os y.os))) (fun E => ((wanted_of rfl rfl (E.sz 27 (by decide)) (E.d 21 5)).trans (beq_f _))) (fun E hb0 => (by have hb : (((!(x.ep == y.ep)) || (!(((x.tm : Nat) : Int) == ((y.tm : Nat) : Int)))) || (!(((x.ps.length : Nat) : Int) == ((y.ps.length : Nat) : Int)))) = false := (by simpa using hb0); exact ex_not rfl ((E.q 26 0 hv1_26.out).1 hb0))) ?_
 intro v1_27 hw
 have hv1_27 := hid hw
 clear hw
 refine QSeq.pure rfl (.bool ((((!(x.ep == y.ep)) || (!(((x.tm : Nat) : Int) == ((y.tm : Nat) : Int)))) || (!(((x.ps.length : Nat) : Int) == ((y.ps.length : Nat) : Int)))) || (!(eqb x.os y.os)))) (fun E => ex_pickE rfl (E.d 21 6) rfl rfl (or_val fun hb => (E.q 27 0 hv1_27.out).1 (by rw [hb]; rfl))) ?_
 refine QSeq.pure rfl _ (fun E => ex_move rfl (E.d 28 0)) ?_
 refine QSeq.may (b := (!((((!(x.ep == y.ep)) || (!(((x.tm : Nat) : Int) == ((y.tm : Nat) : Int)))) || (!(((x.ps.length : Nat) : Int) == ((y.ps.length : Nat) : Int)))) || (!(eqb x.os y.os))))) rfl (.pointer (some ⟨w.heap.size, 4, none⟩)) (fun E => ((wanted_of rfl rfl (E.sz 35 (by decide)) (E.d 29 0)).trans (beq_f _))) (fun E hb0 => (by have hb : ((((!(x.ep == y.ep)) || (!(((x.tm : Nat) : Int) == ((y.tm : Nat) : Int)))) || (!(((x.ps.length : Nat) : Int) == ((y.ps.length : Nat) : Int)))) || (!(eqb x.os y.os))) = false := (by simpa using hb0); exact ex_field rfl Try.underlying60 rfl (by kernel_rfl) (E.v oe2))) ?_
 intro v1_30 hw
 have hv1_30 := hid hw
 clear hw
 refine QSeq.may (b := (!((((!(x.ep == y.ep)) || (!(((x.tm : Nat) : Int) == ((y.tm : Nat) : Int)))) || (!(((x.ps.length : Nat) : Int) == ((y.ps.length : Nat) : Int)))) || (!(eqb x.os y.os))))) rfl (.slice ax_ts x.ts.length kx_ts) (fun E => ((wanted_of rfl rfl (E.sz 35 (by decide)) (E.d 29 1)).trans (beq_f _))) (fun E hb0 => (by have hb : ((((!(x.ep == y.ep)) || (!(((x.tm : Nat) : Int) == ((y.tm : Nat) : Int)))) || (!(((x.ps.length : Nat) : Int) == ((y.ps.length : Nat) : Int)))) || (!(eqb x.os y.os))) = false := (by simpa using hb0); exact ex_load1 rfl Try.underlying58 rfl ((E.q 30 0 hv1_30.out).1 hb0) (Cs.lit1 (HB2.out.mod Cx7.out (fun h => h)) rfl))) ?_
 intro v1_31 hw
 have hv1_31 := hid hw
 clear hw
 refine QSeq.may (b := (!((((!(x.ep == y.ep)) || (!(((x.tm : Nat) : Int) == ((y.tm : Nat) : Int)))) || (!(((x.ps.length : Nat) : Int) == ((y.ps.length : Nat) : Int)))) || (!(eqb x.os y.os))))) rfl (.pointer (some ⟨w.heap.size + 1, 4, none⟩)) (fun E => ((wanted_of rfl rfl (E.sz 35 (by decide)) (E.d 29 2)).trans (beq_f _))) (fun E hb0 => (by have hb : ((((!(x.ep == y.ep)) || (!(((x.tm : Nat) : Int) == ((y.tm : Nat) : Int)))) || (!(((x.ps.length : Nat) : Int) == ((y.ps.length : Nat) : Int)))) || (!(eqb x.os y.os))) = false := (by simpa using hb0); exact ex_field rfl Try.underlying60 rfl (by kernel_rfl) (E.v oe3))) ?_
 intro v1_32 hw
 have hv1_32 := hid hw
 clear hw
 refine QSeq.may (b := (!((((!(x.ep == y.ep)) || (!(((x.tm : Nat) : Int) == ((y.tm : Nat) : Int)))) || (!(((x.ps.length : Nat) : Int) == ((y.ps.length : Nat) : Int)))) || (!(eqb x.os y.os))))) rfl (.slice ay_ts y.ts.length ky_ts) (fun E => ((wanted_of rfl rfl (E.sz 35 (by decide)) (E.d 29 3)).trans (beq_f _))) (fun E hb0 => (by have hb : ((((!(x.ep == y.ep)) || (!(((x.tm : Nat) : Int) == ((y.tm : Nat) : Int)))) || (!(((x.ps.length : Nat) : Int) == ((y.ps.length : Nat) : Int)))) || (!(eqb x.os y.os))) = false := (by simpa using hb0); exact ex_load1 rfl Try.underlying58 rfl ((E.q 32 0 hv1_32.out).1 hb0) (Cs.lit1 (HB3.out.mod Cx7.out (fun h => h)) rfl))) ?_
 intro v1_33 hw
 have hv1_33 := hid hw
 clear hw
 refine QSeq.mayCall (b := (!((((!(x.ep == y.ep)) || (!(((x.tm : Nat) : Int) == ((y.tm : Nat) : Int)))) || (!(((x.ps.length : Nat) : Int) == ((y.ps.length : Nat) : Int)))) || (!(eqb x.os y.os))))) rfl (.bool (eqb x.ts y.ts)) (args := #[.slice ax_ts x.ts.length kx_ts, .slice ay_ts y.ts.length ky_ts]) (fun E => ((wanted_of rfl rfl (E.sz 35 (by decide)) (E.d 29 4)).trans (beq_f _))) rfl Try.func88 (fun E hb0 => (by have hb : ((((!(x.ep == y.ep)) || (!(((x.tm : Nat) : Int) == ((y.tm : Nat) : Int)))) || (!(((x.ps.length : Nat) : Int) == ((y.ps.length : Nat) : Int)))) || (!(eqb x.os y.os))) = false := (by simpa using hb0); exact args2 ((E.q 31 2 hv1_31.out).1 hb0) ((E.q 33 0 hv1_33.out).1 hb0))) (fun hb0 => (by have hb : ((((!(x.ep == y.ep)) || (!(((x.tm : Nat) : Int) == ((y.tm : Nat) : Int)))) || (!(((x.ps.length : Nat) : Int) == ((y.ps.length : Nat) : Int)))) || (!(eqb x.os y.os))) = false := (by simpa using hb0); exact EqL_Tb _ _ _ _ _ _ _ (Hx3.out.mod Cx7.out (fun _ _ h => h)) (Hx6.out.mod Cx7.out (fun _ _ h => h)) (by intro k h1; have hb := HBR.out k h1; (try have := hm.size); omega) (by intro k h1; have hb := HBT.out k h1; (try have := hm.size); omega))) ?_
 intro v1_34 u1_34 hw hm
 have hv1_34 := hid hw
 clear hw
 have zu1_34 := hm.size
 have HMu1_34 := hid hm
 have Cx8 := hid (Cx7.out.goE hm)
 clear hm Cx7
 refine QSeq.may (b := (!((((!(x.ep == y.ep)) || (!(((x.tm : Nat) : Int) == ((y.tm : Nat) : Int)))) || (!(((x.ps.length : Nat) : Int) == ((y.ps.length : Nat) : Int)))) || (!(eqb x.os y.os))))) rfl (.bool (!(eqb x.ts y.ts))) (fun E => ((wanted_of rfl rfl (E.sz 35 (by decide)) (E.d 29 5)).trans (beq_f _))) (fun E hb0 => (by have hb : ((((!(x.ep == y.ep)) || (!(((x.tm : Nat) : Int) == ((y.tm : Nat) : Int)))) || (!(((x.ps.length : Nat) : Int) == ((y.ps.length : Nat) : Int)))) || (!(eqb x.os y.os))) = false := (by simpa using hb0); exact ex_not rfl ((E.q 34 0 hv1_34.out).1 hb0))) ?_
 intro v1_35 hw
 have hv1_35 := hid hw
 clear hw
 refine QSeq.pure rfl (.bool (((((!(x.ep == y.ep)) || (!(((x.tm : Nat) : Int) == ((y.tm : Nat) : Int)))) || (!(((x.ps.length : Nat) : Int) == ((y.ps.length : Nat) : Int)))) || (!(eqb x.os y.os))) || (!(eqb x.ts y.ts)))) (fun E => ex_pickE rfl (E.d 29 6) rfl rfl (or_val fun hb => (E.q 35 0 hv1_35.out).1 (by rw [hb]; rfl))) ?_
 clear HMu1_34 hv1_6 hv1_7 hv1_8 hv1_9 hv1_10 hv1_13 hv1_14 hv1_15 hv1_16 hv1_17 hv1_18 hv1_19 hv1_22 hv1_23 hv1_24 hv1_25 hv1_26 hv1_27 hv1_30 hv1_31 hv1_32 hv1_33 hv1_34 hv1_35
 refine QSeq.nil (t' := [_, _, _, _, _, _, _, _, _, _, _, _, _, _, _, _, _, _, _, _, _, _, _, _, _, _, _, _, _, _, _, _, _, _, _, _, _]) rfl ?_
 obtain rfl := HA0.out
 clear HA0 oe2 oe3
 simp only [pz, Act.put, List.setIfInBounds_toArray, List.set_cons_zero, List.set_cons_succ]
 obtain ⟨b0, hb0⟩ : ∃ b0, b0 = (((((!(x.ep == y.ep)) || (!(((x.tm : Nat) : Int) == ((y.tm : Nat) : Int)))) || (!(((x.ps.length : Nat) : Int) == ((y.ps.length : Nat) : Int)))) || (!(eqb x.os y.os))) || (!(eqb x.ts y.ts))) := ⟨_, rfl⟩
 rw [← hb0]
 cases b0 with
 | true =>
  go_upto_region 2 with (fail)
  refine wp_region_U 62 [4] [0] (fun a0 HA0 => ?_)
  refine QSeq.pure rfl (.bool false) (fun E => ex_assign rfl rfl) ?_
  refine QSeq.nil (t' := [_]) rfl ?_
  obtain rfl := HA0.out
  clear HA0
  simp only [pz, Act.put, List.setIfInBounds_toArray, List.set_cons_zero, List.set_cons_succ]
  go_wp2
  go_ret
  exact ⟨ret_bool (ba_neb x y hb0.symm).symm, (HM0.out.trans Cx8.out (fun _ _ h => h.elim))⟩
 | false =>
  have HEQ := hid (ba_eqb x y hb0.symm)
  have HLE := hid (show x.ps.length = y.ps.length by have h := hb0.symm; simp only [Bool.or_eq_false_iff, Bool.not_eq_false', beq_I, Int.ofNat_inj] at h; exact h.1.1.2)
  clear hb0
  go_upto_region 3 with (fail)
  refine wp_region_U 62 [43, 44, 45, 46] [0, 1, 2, 3] (fun a0 HA0 => ?_)
  have oe2 := ev HA0 2 rfl
  refine QSeq.pure rfl (.pointer (some ⟨w.heap.size, 2, none⟩)) (fun E => ex_field rfl Try.underlying60 rfl (by kernel_rfl) (E.v oe2)) ?_
  refine QSeq.pure rfl _ (fun E => ex_load1 rfl Try.underlying56 rfl (E.d 0 0) (Cs.lit1 (HB2.out.mod Cx8.out (fun h => h)) rfl)) ?_
  refine QSeq.pure rfl (.int .i64 x.ps.length) (fun E => ex_lenS rfl (E.d 1 0) Try.underlying56) ?_
  refine QSeq.pure rfl (.int .i64 0) (fun E => ex_move rfl rfl) ?_
  refine QSeq.nil (t' := [_, _, _, _]) rfl ?_
  obtain rfl := HA0.out
  clear HA0 oe2
  simp only [pz, Act.put, List.setIfInBounds_toArray, List.set_cons_zero, List.set_cons_succ]
  go_wp2
  go_loopw [46, 5] (fun ti t5 wr => ∃ k : Nat, ti = .int .i64 (k : Int) ∧ k ≤ x.ps.length ∧ x.ps.take k = y.ps.take k ∧ u1_34.heap.size ≤ wr.heap.size ∧ RdS PmR R wr (.slice ax_ps x.ps.length kx_ps) x.ps ∧ RdS PmR R2 wr (.slice ay_ps y.ps.length ky_ps) y.ps ∧ Cs wr (w.heap.size) (x.cells (.slice ax_ps x.ps.length kx_ps) (.slice ax_os x.os.length kx_os) (.slice ax_ts x.ts.length kx_ts) : List Value).toArray 60 ∧ Cs wr (w.heap.size + 1) (y.cells (.slice ay_ps y.ps.length ky_ps) (.slice ay_os y.os.length ky_os) (.slice ay_ts y.ts.length ky_ts) : List Value).toArray 60 ∧ Mod (fun _ => False) w wr) (fun ti t5 _ => x.ps.length - (intOf ti).toNat)
  case atStart => exact ⟨0, rfl, Nat.zero_le _, rfl, Nat.le_refl _, (Hx1.out.mod Cx8.out (fun _ _ h => h)), (Hx4.out.mod Cx8.out (fun _ _ h => h)), (HB2.out.mod Cx8.out (fun h => h)), (HB3.out.mod Cx8.out (fun h => h)), (HM0.out.trans Cx8.out (fun _ _ h => h.elim))⟩
  case round =>
   obtain ⟨k, rfl, hk, htk, hz, hs, ht, hb2, hb3, hm⟩ := hrel
   obtain ⟨wl, rfl⟩ : ∃ x, x = wr := ⟨_, rfl⟩
   have HS2 := Lib.hid hs
   have HT2 := Lib.hid ht
   have HML := Lib.hid hm
   have HTK := Lib.hid htk
   have HBX := Lib.hid hb2
   have HBY := Lib.hid hb3
   clear hs ht hm htk hb2 hb3 Hx1 Hx2 Hx3 Hx4 Hx5 Hx6 HB2 HB3 HM0
   by_cases hlt : k < x.ps.length
   ·have hlt2 : k < y.ps.length := by have := HLE.out; omega
    go_upto_region 4 with (fail)
    refine wp_region_U 62 [47] [0] (fun a0 HA0 => ?_)
    have oe45 := ev HA0 45 rfl
    have oe46 := ev HA0 46 rfl
    refine QSeq.pure rfl (.bool true) (fun E => ex_binE rfl (E.v oe46) (E.v oe45) (guard_ints _ _ _ _ _ _) (run_lss_i _ _ _ Try.underlying3) (congrArg Value.bool (decide_eq_true (by omega)))) ?_
    refine QSeq.nil (t' := [_]) rfl ?_
    obtain rfl := HA0.out
    clear HA0 oe45 oe46
    simp only [pz, Act.put, List.setIfInBounds_toArray, List.set_cons_zero, List.set_cons_succ]
    go_upto_region 5 with (fail)
    refine wp_region_U 62 [48, 5] [0, 1] (fun a0 HA0 => ?_)
    have oe46 := ev HA0 46 rfl
    refine QSeq.pure rfl _ (fun E => ex_move rfl (E.v oe46)) ?_
    refine QSeq.pure rfl _ (fun E => ex_assign rfl (E.d 0 0)) ?_
    refine QSeq.nil (t' := [_, _]) rfl ?_
    obtain rfl := HA0.out
    clear HA0 oe46
    simp only [pz, Act.put, List.setIfInBounds_toArray, List.set_cons_zero, List.set_cons_succ]
    have hat := HS2.out.at hlt
    obtain ⟨g1, o1, c1, eao, hrg, hrd, hcs⟩ := hat
    subst eao
    obtain ⟨p, hp⟩ : ∃ z, z = x.ps[k] := ⟨_, rfl⟩
    rw [← hp] at hrd
    have HX1 := Lib.hid hp
    have hcl : c1.length = 6 := PmR.len hrd
    have HCL1 := Lib.hid hcl
    have HAT1 := hid (show CellsAt R wl g1 (o1 + k * 6) c1 from ⟨hrg, hcs⟩)
    have HRD1 := Lib.hid hrd
    clear hcl hcs hrd hrg hp
    have hat := HT2.out.at hlt2
    obtain ⟨g2, o2, c2, eao, hrg, hrd, hcs⟩ := hat
    subst eao
    obtain ⟨q, hq⟩ : ∃ z, z = y.ps[k] := ⟨_, rfl⟩
    rw [← hq] at hrd
    have HX2 := Lib.hid hq
    have hcl : c2.length = 6 := PmR.len hrd
    have HCL2 := Lib.hid hcl
    have HAT2 := hid (show CellsAt R2 wl g2 (o2 + k * 6) c2 from ⟨hrg, hcs⟩)
    have HRD2 := Lib.hid hrd
    clear hcl hcs hrd hrg hq
    obtain ⟨b, hb⟩ : ∃ b, b = eqb p q := ⟨_, rfl⟩
    have HB := Lib.hid hb
    clear hb
    go_upto_region 6 with (fail)
    generalize ha0 : Act.mk _ _ = a0
    have oe2 : a0.eval (.tmp 2) = .pointer (some ⟨w.heap.size, 0, none⟩) := by rw [← ha0]; rfl
    have oe3 : a0.eval (.tmp 3) = .pointer (some ⟨w.heap.size + 1, 0, none⟩) := by rw [← ha0]; rfl
    have oe5 : a0.eval (.tmp 5) = .int .i64 ((k : Nat) : Int) := by rw [← ha0]; rfl
    have hsz0 : a0.tmps.size = 62 := by rw [← ha0]; rfl
    have HA0 := hid ha0
    clear ha0
    refine wp_region_Q0 62 hsz0 [49, 50, 51, 52, 53, 54, 55, 56, 57, 58, 59, 60] [qi (.pointer (some ⟨w.heap.size, 2, none⟩)), qi (.slice (some ⟨g1, o1, none⟩) x.ps.length kx_ps), qi (.int .i64 ((k : Nat) : Int)), qi (.pointer (some ⟨g1, o1 + k * 6, none⟩)), qi (.agg c1.toArray), qi (.pointer (some ⟨w.heap.size + 1, 2, none⟩)), qi (.slice (some ⟨g2, o2, none⟩) y.ps.length ky_ps), qi (.int .i64 ((k : Nat) : Int)), qi (.pointer (some ⟨g2, o2 + k * 6, none⟩)), qi (.agg c2.toArray), qi (.bool b), qi (.bool (!b))] ⟨qi_stable, qi_stable, qi_stable, qi_stable, qi_stable, qi_stable, qi_stable, qi_stable, qi_stable, qi_stable, qi_stable, qi_stable, trivial⟩ [10] ⟨?_, ?_, ?_, ?_, ?_, ?_, ?_, ?_, ?_, ?_, ?_, ?_, trivial⟩ ?_
    ·exact stq (fun E => ex_field rfl Try.underlying60 rfl (by kernel_rfl) (E.v oe2))
    ·exact stq (fun E => ex_load1 rfl Try.underlying56 rfl (E.d 0) (Cs.lit1 (HBX.out.mod E.m.old (by intro h2; omega)) rfl))
    ·exact stq (fun E => ex_move rfl (E.v oe5))
    ·exact stq (fun E => ex_idxS (i := k) (s := 6) rfl Try.underlying56 (by kernel_rfl) (E.d 1) (E.d 2) (by first | exact hlt | exact hlt2))
    ·exact stq (fun E => ex_loadA rfl Try.underlying55 rfl (off := o1 + k * 6) (cs := c1) (by rw [HCL1.out]; kernel_rfl) (E.d 3) (fun j u hu => ((HAT1.out.mod E.m.old (by intro k h1 h2; have hb := HBR.out k h1; omega))).2 j u hu))
    ·exact stq (fun E => ex_field rfl Try.underlying60 rfl (by kernel_rfl) (E.v oe3))
    ·exact stq (fun E => ex_load1 rfl Try.underlying56 rfl (E.d 5) (Cs.lit1 (HBY.out.mod E.m.old (by intro h2; omega)) rfl))
    ·exact stq (fun E => ex_move rfl (E.v oe5))
    ·exact stq (fun E => ex_idxS (i := k) (s := 6) rfl Try.underlying56 (by kernel_rfl) (E.d 6) (E.d 7) (by first | exact hlt | exact hlt2))
    ·exact stq (fun E => ex_loadA rfl Try.underlying55 rfl (off := o2 + k * 6) (cs := c2) (by rw [HCL2.out]; kernel_rfl) (E.d 8) (fun j u hu => ((HAT2.out.mod E.m.old (by intro k h1 h2; have hb := HBT.out k h1; omega))).2 j u hu))
    ·exact stepq_chain rfl
    ·exact stq (fun E => ex_not rfl (E.d 10))
    intro u6_0 hr
    have zu6_0 := hr.size
    have Cx9 := hid (hr.new (S := (fun _ => False)))
    clear hr
    refine QChain.go fun Z act E => ?_
    refine qc_callF (args := #[.agg c1.toArray, .agg c2.toArray]) rfl (wanted_none rfl) rfl Try.func33 (args2 (E.d 4) (E.d 9)) (HB.out.symm ▸ Eq_Pm _ _ _ _ _ _ _ (HRD1.out.mod Cx9.out (fun _ _ h => h)) (HRD2.out.mod Cx9.out (fun _ _ h => h)) (by intro k h1; have hb := HBR.out k h1; omega) (by intro k h1; have hb := HBT.out k h1; omega)) ?_
    rintro e u6_1a ⟨rfl, hm⟩
    have zu6_1a := hm.size
    refine ⟨_, rfl, hm.mono (fun _ _ h => h.elim), (fun _ => rfl), ?_⟩
    intro u6_1 hr
    have zu6_1 := hr.size
    have Cx10 := hid (Cx9.out.go hm hr)
    clear Cx9 hm hr Z act E
    refine QChain.nil fun vs hl hzz hrows hne => ?_
    obtain ⟨Z, hYZ, hZb, hV⟩ := hzz
    have f2 := fvi hV hl 2
    have f7 := fvi hV hl 7
    have f10 := fvi hV hl 10
    have f11 := fvi hV hl 11
    rw [show vs = [gw vs 0, gw vs 1, gw vs 2, gw vs 3, gw vs 4, gw vs 5, gw vs 6, gw vs 7, gw vs 8, gw vs 9, gw vs 10, gw vs 11] from (gw_eta hl).trans rfl]
    have ha0 := HA0.out
    subst ha0
    clear HA0 hV hYZ hZb hsz0 hrows hne oe2 oe3 oe5
    simp only [putAll, Act.put, List.setIfInBounds_toArray, List.set_cons_zero, List.set_cons_succ, f2, f7, f10, f11]
    clear hl f2 f7 f10 f11
    cases b with
    | false =>
     go_upto_region 7 with (fail)
     refine wp_region_U 62 [4] [0] (fun a0 HA0 => ?_)
     refine QSeq.pure rfl (.bool false) (fun E => ex_assign rfl rfl) ?_
     refine QSeq.nil (t' := [_]) rfl ?_
     obtain rfl := HA0.out
     clear HA0
     simp only [pz, Act.put, List.setIfInBounds_toArray, List.set_cons_zero, List.set_cons_succ]
     go_wp2
     go_ret
     exact ⟨ret_bool (HEQ.out.symm.trans (take_ne hlt hlt2 (fun e => by have h := HB.out; rw [HX1.out, HX2.out, e, eqb_rfl] at h; cases h))).symm, (HML.out.trans Cx10.out (fun _ _ h => h.elim))⟩
    | true =>
     go_upto_region 8 with (fail)
     refine wp_region_U 62 [61, 46] [0, 1] (fun a0 HA0 => ?_)
     have oe46 := ev HA0 46 rfl
     refine QSeq.pure rfl (.int .i64 (((k : Nat) : Int) + 1)) (fun E => ex_binE rfl (E.y 1 oe46) rfl (guard_ints _ _ _ _ _ _) (run_add_i _ _ Try.underlying3) (congrArg (Value.int .i64) (IntWalk.i64_in _ (by omega)))) ?_
     refine QSeq.pure rfl _ (fun E => ex_move rfl (E.d 0 0)) ?_
     refine QSeq.nil (t' := [_, _]) rfl ?_
     obtain rfl := HA0.out
     clear HA0 oe46
     simp only [pz, Act.put, List.setIfInBounds_toArray, List.set_cons_zero, List.set_cons_succ]
     go_wp2
     go_roundw
     case rel => exact ⟨k + 1, by go_num, by omega, take_succ2 hlt hlt2 HTK.out (by have h := eqb_iff.1 HB.out.symm; rw [HX1.out, HX2.out] at h; exact h), by omega, (HS2.out.mod Cx10.out (fun _ _ h => h)), (HT2.out.mod Cx10.out (fun _ _ h => h)), (HBX.out.mod Cx10.out (fun h => h)), (HBY.out.mod Cx10.out (fun h => h)), (HML.out.trans Cx10.out (fun _ _ h => h.elim))⟩
     case measure => simp [intOf] <;> omega
   ·skip
    go_upto_region 4 with (fail)
    refine wp_region_U 62 [47] [0] (fun a0 HA0 => ?_)
    have oe45 := ev HA0 45 rfl
    have oe46 := ev HA0 46 rfl
    refine QSeq.pure rfl (.bool false) (fun E => ex_binE rfl (E.v oe46) (E.v oe45) (guard_ints _ _ _ _ _ _) (run_lss_i _ _ _ Try.underlying3) (congrArg Value.bool (decide_eq_false (by omega)))) ?_
    refine QSeq.nil (t' := [_]) rfl ?_
    obtain rfl := HA0.out
    clear HA0 oe45 oe46
    simp only [pz, Act.put, List.setIfInBounds_toArray, List.set_cons_zero, List.set_cons_succ]
    go_upto_region 9 with (fail)
    refine wp_region_U 62 [4] [0] (fun a0 HA0 => ?_)
    refine QSeq.pure rfl (.bool true) (fun E => ex_assign rfl rfl) ?_
    refine QSeq.nil (t' := [_]) rfl ?_
    obtain rfl := HA0.out
    clear HA0
    simp only [pz, Act.put, List.setIfInBounds_toArray, List.set_cons_zero, List.set_cons_succ]
    go_wp2
    go_ret
    exact ⟨ret_bool (HEQ.out.symm.trans (take_all (by omega) (by have := HLE.out; omega) HTK.out)).symm, HML.out⟩
end Go.Proofs.Ytknpapcfhnhheaa

/- wire.ValidConf, N, Quorum, and the statement WireConfs. -/
namespace Go.Proofs.Ytknpapcfhnhheaa
open Go Go.RowKit Go.Gv

theorem N_any (F C : Int) (h : -1000 ≤ F ∧ F ≤ 1000) (w : World) : Calls Try.prog 48 #[.agg #[.int .i64 F, .int .i64 C]] w fun e w' => e = .returned (.int .i64 (3 * F + 1)) ∧ Mod (fun _ => False) w w' := by
 obtain ⟨h1, h2⟩ := h
 go_enter Try.func48, Try.ntmps48
 go_wp2
 go_ret
 exact ⟨rfl, (Mod.refl _ _).alloc _⟩
theorem Quorum_any (F C : Int) (h : -1000 ≤ F ∧ F ≤ 1000) (w : World) : Calls Try.prog 49 #[.agg #[.int .i64 F, .int .i64 C]] w fun e w' => e = .returned (.int .i64 (2 * F + 1)) ∧ Mod (fun _ => False) w w' := by
 obtain ⟨h1, h2⟩ := h
 go_enter Try.func49, Try.ntmps49
 go_wp2
 go_ret
 exact ⟨rfl, (Mod.refl _ _).alloc _⟩

theorem wakes05 (w : World) : Calls Try.prog 19 #[] w fun e w' => e = .returned (.bool true) ∧ Mod (fun _ => False) w w' := by
 go_enter Try.func19, Try.ntmps19
 go_wp2_with fail
 refine (N_any 1 0 (by omega) _).mono ?_
 rintro e w1 ⟨rfl, hm1⟩
 have HM1 := Lib.hid hm1
 clear hm1
 go_wp2_with fail
 refine (Quorum_any 1 0 (by omega) _).mono ?_
 rintro e w2 ⟨rfl, hm2⟩
 have HM2 := Lib.hid hm2
 clear hm2
 go_wp2
 go_ret
 exact ⟨rfl, HM1.out.trans HM2.out (fun _ _ h => h)⟩

end Go.Proofs.Ytknpapcfhnhheaa

/- gavellaw05.turned. -/
namespace Go.Proofs.Ytknpapcfhnhheaa
open Go Go.RowKit Go.Gv


theorem eq_tt {a b : Int} (h : a = b) : (a == b) = true := by simp [h]
theorem eq_ff {a b : Int} (h : ¬ a = b) : (a == b) = false := by simp [h]
/-- the block of bytes that are one's own: one of them may be written -/
theorem OwR.cs {R : Nat → Prop} {N n cap : Nat} {ao : Option Addr} {w : World} {bs : List Int} (h : OwR R N w (.slice ao n cap) bs) (hp : 0 < bs.length) :
    ∃ g cl, ao = some ⟨g, 0, none⟩ ∧ Cs w g (List.toArray cl) 5 ∧ R g ∧ (∀ i (hi : i < bs.length), cl[i]? = some (bv bs[i])) ∧ bs.length ≤ cl.length ∧
      ∀ w' i x, i < bs.length → 0 ≤ x ∧ x < 256 → Cs w' g (List.toArray (cl.set i (bv x))) 5 → OwR R N w' (.slice ao n cap) (bs.set i x) := by
  obtain ⟨h1, h2, h3⟩ := h
  have hby := h1.bytes
  obtain ⟨hl, hE, ⟨e, hn⟩ | ⟨g, cap', cur, e, hc, q1, q2, q3, q4, q5⟩⟩ := h1
  · have : bs.length = 0 := by simpa using hn
    omega
  · injection e with e1 e2 e3
    subst e1 e2 e3
    have hget : ∀ i (hi : i < bs.length), cur.toList[i]? = some (bv bs[i]) := by
      intro i hi
      have e : (cur.toList.take (bs.length * 1))[i]? = (bs.map bv)[i]? := by rw [q4]
      rw [List.getElem?_take, if_pos (by omega)] at e
      rw [e]
      simp [hi]
    have hlen : bs.length ≤ cur.toList.length := by have : cur.toList.length = cur.size := rfl; omega
    refine ⟨g, cur.toList, rfl, hc, h2 g rfl, hget, hlen, fun w' i x hi hx hc' => ⟨?_, h2, by simpa using h3⟩⟩
    have hbx : ∀ z ∈ bs.set i x, 0 ≤ z ∧ z < 256 := fun z hz => by
      rcases List.mem_or_eq_of_mem_set hz with hz | rfl
      · exact hby z hz
      · exact hx
    refine ⟨by simp, isB_all hbx, .inr ⟨g, cap, _, by simp, hc', by simpa using q1, q2, ?_, ?_, ?_⟩⟩
    · simpa using q3
    · have : ((cur.toList.set i (bv x)).toArray.toList.take ((bs.set i x).length * 1)) = (bs.set i x).map bv := by
        simp only [List.length_set, List.map_set, Nat.mul_one]
        rw [List.take_set, ← q4, Nat.mul_one]
      exact this
    · intro u hu
      have hu' : u ∈ cur.toList.set i (bv x) := hu
      rcases List.mem_or_eq_of_mem_set hu' with hu' | rfl
      · exact q5 u hu'
      · exact ⟨x, rfl, hx⟩
end Go.Proofs.Ytknpapcfhnhheaa
