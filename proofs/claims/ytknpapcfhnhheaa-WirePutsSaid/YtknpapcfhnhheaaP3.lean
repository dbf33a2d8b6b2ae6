/- Texts that are built one behind the other: XCm2, XSet0, XTy, XCut1, XCut2, XCut3. No condition. -/
import Derived.Test.YtknpapcfhnhheaaP2
import Derived.Deep.Cut
/- commit.Text. -/
set_option maxRecDepth 100000
set_option linter.unusedVariables false
namespace Go.Proofs.Ytknpapcfhnhheaa
open Go Go.RowKit Go.Gv

/-- a commitment -/
structure Cm where
  cl : Int
  sq : Int
  h : List Int
  ln : Int
  sb : Int
  mr : Int
def Cm.cells (c : Cm) : List Value := [.int .i64 c.cl, .int .i64 c.sq] ++ (c.h.map bv ++ [.int .i64 c.ln, .int .i64 c.sb, .int .i64 c.mr])
def Cm.val (c : Cm) : Value := .agg c.cells.toArray
/-- its numbers are numbers, its hash is one -/
def Cm.OK (c : Cm) : Prop := (I64 c.cl ∧ I64 c.sq ∧ I64 c.ln ∧ I64 c.sb ∧ I64 c.mr) ∧ c.h.length = 32 ∧ Bytes c.h
theorem Cm.len {c : Cm} (h : c.h.length = 32) : c.cells.length = 37 := by simp [Cm.cells, h]
theorem size_commit : (Try.prog.info? 49).map (·.size) = some 37 := by kernel_rfl
section
variable {w : World} {g : Nat} {c : Cm} {T : TypeId}
end
end Go.Proofs.Ytknpapcfhnhheaa
namespace Go.Gv
open Go Go.RowKit Go.Proofs.Ytknpapcfhnhheaa
section
variable {w : World} {g : Nat} {c : Cm} {T : TypeId}
theorem Cs.c0 (h : Cs w g c.cells.toArray T) : w.cell? ⟨g, 0, none⟩ = some (.int .i64 c.cl) := by rw [h.cell]; rfl
theorem Cs.c1 (h : Cs w g c.cells.toArray T) : w.cell? ⟨g, 1, none⟩ = some (.int .i64 c.sq) := by rw [h.cell]; rfl
theorem Cs.far (h : Cs w g c.cells.toArray T) (hl : c.h.length = 32) (j : Nat) : w.cell? ⟨g, 34 + j, none⟩ = ([Value.int .i64 c.ln, .int .i64 c.sb, .int .i64 c.mr] : List Value)[j]? := by
  rw [h.cell]
  simp only [List.getElem?_toArray, Cm.cells]
  rw [List.getElem?_append_right (by simp; omega), List.getElem?_append_right (by simp [hl]; omega)]
  simp only [List.length_cons, List.length_nil, List.length_map, hl]
  congr 1
  omega
theorem Cs.c34 (h : Cs w g c.cells.toArray T) (hl : c.h.length = 32) : w.cell? ⟨g, 34, none⟩ = some (.int .i64 c.ln) := Cs.far h hl 0
theorem Cs.hash (h : Cs w g c.cells.toArray T) : ∀ j u, (c.h.map bv)[j]? = some u → w.cell? ⟨g, 2 + j, none⟩ = some u := by
  intro j u hu
  rw [h.cell]
  simp only [List.getElem?_toArray, Cm.cells]
  rw [List.getElem?_append_right (by simp), List.getElem?_append_left (by simpa using (List.getElem?_eq_some_iff.1 hu).1)]
  simpa using hu
theorem Cs.name (h : Cs w g c.cells.toArray T) : ∀ j u, ([Value.int .i64 c.cl, .int .i64 c.sq] : List Value)[j]? = some u → w.cell? ⟨g, 0 + j, none⟩ = some u := by
  intro j u hu
  rw [Nat.zero_add, h.cell]
  simp only [List.getElem?_toArray, Cm.cells]
  rw [List.getElem?_append_left (List.getElem?_eq_some_iff.1 hu).1]
  exact hu
theorem Cs.sig (h : Cs w g c.cells.toArray T) (hl : c.h.length = 32) : ∀ j u, ([Value.int .i64 c.sb, .int .i64 c.mr] : List Value)[j]? = some u → w.cell? ⟨g, 35 + j, none⟩ = some u := by
  intro j u hu
  have := Cs.far h hl (1 + j)
  rw [show 34 + (1 + j) = 35 + j by omega] at this
  rw [this, Nat.add_comm]
  exact hu
theorem Cs.whole {cs : List Value} (h : Cs w g cs.toArray T) : ∀ j u, cs[j]? = some u → w.cell? ⟨g, 0 + j, none⟩ = some u := by
  intro j u hu
  rw [Nat.zero_add, h.cell]
  simpa using hu
end
end Go.Gv
namespace Go.Proofs.Ytknpapcfhnhheaa
open Go Go.RowKit Go.Gv
end Go.Proofs.Ytknpapcfhnhheaa

/- Hashes as keys of maps; zeros. -/
set_option maxRecDepth 100000
set_option linter.unusedVariables false
namespace Go.Proofs.Ytknpapcfhnhheaa
open Go Go.RowKit Go.Gv
open Go.Maps (Keyed)

/-- a hash -/
def HK (bs : List Int) : Prop := bs.length = 32 ∧ Bytes bs
end Go.Proofs.Ytknpapcfhnhheaa

/- The kinds of things that messages are made of: their cells, what reads as one. -/
set_option maxRecDepth 100000
set_option linter.unusedVariables false
namespace Go.Proofs.Ytknpapcfhnhheaa
open Go Go.RowKit Go.Gv

/-- a stamp, or an ack -/
structure St where
  rp : Int
  cl : Int
  sq : Int
  h : List Int
  tm : Nat
  sb : Int
  mr : Int
abbrev St.cells (x : St) : List Value := [.int .i64 x.rp, .int .i64 x.cl, .int .i64 x.sq] ++ (x.h.map bv ++ [.int .u64 (x.tm : Nat), .int .i64 x.sb, .int .i64 x.mr])
abbrev St.val (x : St) : Value := .agg x.cells.toArray
structure St.OK (x : St) : Prop where
  rp : I64 x.rp
  cl : I64 x.cl
  sq : I64 x.sq
  h : HK x.h
  tm : x.tm < U64
  sb : I64 x.sb
  mr : I64 x.mr
theorem St.len {x : St} (h : x.OK) : x.cells.length = 38 := by simp [St.cells, h.h.1]
theorem St.one (x : St) : ∀ u ∈ x.cells, u.oneCell' = true := by
  intro u hu
  simp only [St.cells, List.mem_append, List.mem_cons, List.not_mem_nil, or_false, List.mem_map] at hu
  rcases hu with (rfl | rfl | rfl) | ⟨y, -, rfl⟩ | rfl | rfl | rfl <;> rfl
def StR : Rep St := Rep.flat 38 (by decide) St.cells St.OK (fun a h => St.len h) (fun a _ => St.one a)
/-- a vote -/
structure Vt where
  kd : Int
  ep : Int
  rd : Int
  rp : Int
  h : List Int
  sb : Int
  mr : Int
abbrev Vt.cells (x : Vt) : List Value := [.int .i64 x.kd, .int .i64 x.ep, .int .i64 x.rd, .int .i64 x.rp] ++ (x.h.map bv ++ [.int .i64 x.sb, .int .i64 x.mr])
abbrev Vt.val (x : Vt) : Value := .agg x.cells.toArray
structure Vt.OK (x : Vt) : Prop where
  kd : I64 x.kd
  ep : I64 x.ep
  rd : I64 x.rd
  rp : I64 x.rp
  h : HK x.h
  sb : I64 x.sb
  mr : I64 x.mr
theorem Vt.len {x : Vt} (h : x.OK) : x.cells.length = 38 := by simp [Vt.cells, h.h.1]
theorem Vt.one (x : Vt) : ∀ u ∈ x.cells, u.oneCell' = true := by
  intro u hu
  simp only [Vt.cells, List.mem_append, List.mem_cons, List.not_mem_nil, or_false, List.mem_map] at hu
  rcases hu with (rfl | rfl | rfl | rfl) | ⟨y, -, rfl⟩ | rfl | rfl <;> rfl
/-- a denial -/
structure Dn where
  rp : Int
  ix : Int
  sb : Int
  mr : Int
abbrev Dn.cells (x : Dn) : List Value := [.int .i64 x.rp, .int .i64 x.ix, .int .i64 x.sb, .int .i64 x.mr]
abbrev Dn.val (x : Dn) : Value := .agg x.cells.toArray
structure Dn.OK (x : Dn) : Prop where
  rp : I64 x.rp
  ix : I64 x.ix
  sb : I64 x.sb
  mr : I64 x.mr
theorem Dn.len {x : Dn} (h : x.OK) : x.cells.length = 4 := by rfl
theorem Dn.one (x : Dn) : ∀ u ∈ x.cells, u.oneCell' = true := by
  intro u hu
  simp only [Dn.cells, List.mem_cons, List.not_mem_nil, or_false] at hu
  rcases hu with rfl | rfl | rfl | rfl <;> rfl
def DnR : Rep Dn := Rep.flat 4 (by decide) Dn.cells Dn.OK (fun a h => Dn.len h) (fun a _ => Dn.one a)
/-- an entry -/
structure En where
  cl : Int
  sq : Int
  h : List Int
  tm : Nat
abbrev En.cells (x : En) : List Value := [.int .i64 x.cl, .int .i64 x.sq] ++ (x.h.map bv ++ [.int .u64 (x.tm : Nat)])
abbrev En.val (x : En) : Value := .agg x.cells.toArray
structure En.OK (x : En) : Prop where
  cl : I64 x.cl
  sq : I64 x.sq
  h : HK x.h
  tm : x.tm < U64
theorem En.len {x : En} (h : x.OK) : x.cells.length = 35 := by simp [En.cells, h.h.1]
theorem En.one (x : En) : ∀ u ∈ x.cells, u.oneCell' = true := by
  intro u hu
  simp only [En.cells, List.mem_append, List.mem_cons, List.not_mem_nil, or_false, List.mem_map] at hu
  rcases hu with (rfl | rfl) | ⟨y, -, rfl⟩ | rfl <;> rfl
theorem RdR_keep {R : Nat → Prop} {N : Nat} {w w' : World} {v : Value} {bs : List Int} (h : RdR R N w v bs) (hk : ∀ p u, R p.block → w.cell? p = some u → w'.cell? p = some u) : RdR R N w' v bs :=
  ⟨⟨h.1.1, h.1.2.keepc fun h0 g hg p u hp hc => hk p u (hp ▸ h.2.1 h0 g hg) hc⟩, h.2⟩
theorem RdR_tight {R : Nat → Prop} {N : Nat} {w : World} {v : Value} {bs : List Int} (h : RdR R N w v bs) : RdR (fun k => R k ∧ k < w.heap.size) N w v bs :=
  ⟨h.1, fun h0 g hg => ⟨h.2.1 h0 g hg, h.1.2.lt (by decide) h0 hg⟩, h.2.2⟩
theorem Cm_one (c : Cm) : ∀ u ∈ c.cells, u.oneCell' = true := by
  intro u hu
  simp only [Cm.cells, List.mem_append, List.mem_cons, List.not_mem_nil, or_false, List.mem_map] at hu
  rcases hu with (rfl | rfl) | ⟨x, -, rfl⟩ | rfl | rfl | rfl <;> rfl
def CmR : Rep Cm := Rep.flat 37 (by decide) Cm.cells Cm.OK (fun a h => Cm.len h.2.1) (fun a _ => Cm_one a)
/-- a certificate -/
structure Ce where
  c : Cm
  l : List St
abbrev Ce.cells (x : Ce) (v_l : Value) : List Value := x.c.cells ++ [v_l]
def Ce.OK (x : Ce) : Prop := x.c.OK
def Ce.rd (R : Nat → Prop) (w : World) (cs : List Value) (x : Ce) : Prop := ∃ v_l, cs = x.cells v_l ∧ x.OK ∧ RdS StR R w v_l x.l
def CeR : Rep Ce where
  sz := 38
  pos := by decide
  rd := Ce.rd
  len h := by
    obtain ⟨v_l, rfl, hok, h0⟩ := h
    simp [Ce.cells, Cm.len hok.2.1]
  one h := by
    obtain ⟨v_l, rfl, hok, h0⟩ := h
    obtain ⟨_, _, e_l⟩ := h0.shape
    subst e_l
    intro u hu
    simp only [Ce.cells, List.mem_append, List.mem_cons, List.not_mem_nil, or_false, List.mem_map] at hu
    rcases hu with hu | rfl
    · exact Cm_one _ _ hu
    · rfl
  keep h hk := by
    obtain ⟨v_l, rfl, hok, h0⟩ := h
    exact ⟨_, rfl, hok, h0.keep hk⟩
  wid h hs := by
    obtain ⟨v_l, rfl, hok, h0⟩ := h
    exact ⟨_, rfl, hok, h0.widen hs⟩
  tight h := by
    obtain ⟨v_l, rfl, hok, h0⟩ := h
    exact ⟨_, rfl, hok, h0.tight⟩
/-- a promise -/
structure Pm where
  rp : Int
  ep : Int
  fl : Nat
  l : List Ce
  sb : Int
  mr : Int
abbrev Pm.cells (x : Pm) (v_l : Value) : List Value := [.int .i64 x.rp, .int .i64 x.ep, .int .u64 (x.fl : Nat), v_l, .int .i64 x.sb, .int .i64 x.mr]
def Pm.OK (x : Pm) : Prop := I64 x.rp ∧ I64 x.ep ∧ x.fl < U64 ∧ I64 x.sb ∧ I64 x.mr
def Pm.rd (R : Nat → Prop) (w : World) (cs : List Value) (x : Pm) : Prop := ∃ v_l, cs = x.cells v_l ∧ x.OK ∧ RdS CeR R w v_l x.l
def PmR : Rep Pm where
  sz := 6
  pos := by decide
  rd := Pm.rd
  len h := by
    obtain ⟨v_l, rfl, hok, h0⟩ := h
    rfl
  one h := by
    obtain ⟨v_l, rfl, hok, h0⟩ := h
    obtain ⟨_, _, e_l⟩ := h0.shape
    subst e_l
    intro u hu
    simp only [Pm.cells, List.mem_append, List.mem_cons, List.not_mem_nil, or_false, List.mem_map] at hu
    rcases hu with rfl | rfl | rfl | rfl | rfl | rfl <;> rfl
  keep h hk := by
    obtain ⟨v_l, rfl, hok, h0⟩ := h
    exact ⟨_, rfl, hok, h0.keep hk⟩
  wid h hs := by
    obtain ⟨v_l, rfl, hok, h0⟩ := h
    exact ⟨_, rfl, hok, h0.widen hs⟩
  tight h := by
    obtain ⟨v_l, rfl, hok, h0⟩ := h
    exact ⟨_, rfl, hok, h0.tight⟩
/-- an opening -/
structure Op where
  ix : Int
  pl : List Int
  nc : List Int
abbrev Op.cells (x : Op) (v_pl : Value) : List Value := [.int .i64 x.ix, v_pl] ++ x.nc.map bv
def Op.OK (x : Op) : Prop := I64 x.ix ∧ HK x.nc
def Op.rd (R : Nat → Prop) (w : World) (cs : List Value) (x : Op) : Prop := ∃ v_pl, cs = x.cells v_pl ∧ x.OK ∧ RdR R x.pl.length w v_pl x.pl
def OpR : Rep Op where
  sz := 34
  pos := by decide
  rd := Op.rd
  len h := by
    obtain ⟨v_pl, rfl, hok, h0⟩ := h
    simp [Op.cells, hok.2.1]
  one h := by
    obtain ⟨v_pl, rfl, hok, h0⟩ := h
    obtain ⟨_, _, e_pl⟩ := h0.shape
    subst e_pl
    intro u hu
    simp only [Op.cells, List.mem_append, List.mem_cons, List.not_mem_nil, or_false, List.mem_map] at hu
    rcases hu with (rfl | rfl) | ⟨y, -, rfl⟩ <;> rfl
  keep h hk := by
    obtain ⟨v_pl, rfl, hok, h0⟩ := h
    exact ⟨_, rfl, hok, RdR_keep h0 hk⟩
  wid h hs := by
    obtain ⟨v_pl, rfl, hok, h0⟩ := h
    exact ⟨_, rfl, hok, h0.widen hs (Nat.le_refl _)⟩
  tight h := by
    obtain ⟨v_pl, rfl, hok, h0⟩ := h
    exact ⟨_, rfl, hok, RdR_tight h0⟩
/-- a tombstone -/
structure Tb where
  ix : Int
  l : List Dn
abbrev Tb.cells (x : Tb) (v_l : Value) : List Value := [.int .i64 x.ix, v_l]
def Tb.OK (x : Tb) : Prop := I64 x.ix
def Tb.rd (R : Nat → Prop) (w : World) (cs : List Value) (x : Tb) : Prop := ∃ v_l, cs = x.cells v_l ∧ x.OK ∧ RdS DnR R w v_l x.l
def TbR : Rep Tb where
  sz := 2
  pos := by decide
  rd := Tb.rd
  len h := by
    obtain ⟨v_l, rfl, hok, h0⟩ := h
    rfl
  one h := by
    obtain ⟨v_l, rfl, hok, h0⟩ := h
    obtain ⟨_, _, e_l⟩ := h0.shape
    subst e_l
    intro u hu
    simp only [Tb.cells, List.mem_append, List.mem_cons, List.not_mem_nil, or_false, List.mem_map] at hu
    rcases hu with rfl | rfl <;> rfl
  keep h hk := by
    obtain ⟨v_l, rfl, hok, h0⟩ := h
    exact ⟨_, rfl, hok, h0.keep hk⟩
  wid h hs := by
    obtain ⟨v_l, rfl, hok, h0⟩ := h
    exact ⟨_, rfl, hok, h0.widen hs⟩
  tight h := by
    obtain ⟨v_l, rfl, hok, h0⟩ := h
    exact ⟨_, rfl, hok, h0.tight⟩
/-- a batch -/
structure Ba where
  ep : Int
  tm : Nat
  ps : List Pm
  os : List Op
  ts : List Tb
abbrev Ba.cells (x : Ba) (v_ps v_os v_ts : Value) : List Value := [.int .i64 x.ep, .int .u64 (x.tm : Nat), v_ps, v_os, v_ts]
def Ba.OK (x : Ba) : Prop := I64 x.ep ∧ x.tm < U64
def Ba.rd (R : Nat → Prop) (w : World) (cs : List Value) (x : Ba) : Prop := ∃ v_ps v_os v_ts, cs = x.cells v_ps v_os v_ts ∧ x.OK ∧ RdS PmR R w v_ps x.ps ∧ RdS OpR R w v_os x.os ∧ RdS TbR R w v_ts x.ts
def BaR : Rep Ba where
  sz := 5
  pos := by decide
  rd := Ba.rd
  len h := by
    obtain ⟨v_ps, v_os, v_ts, rfl, hok, h0, h1, h2⟩ := h
    rfl
  one h := by
    obtain ⟨v_ps, v_os, v_ts, rfl, hok, h0, h1, h2⟩ := h
    obtain ⟨_, _, e_ps⟩ := h0.shape
    obtain ⟨_, _, e_os⟩ := h1.shape
    obtain ⟨_, _, e_ts⟩ := h2.shape
    subst e_ps e_os e_ts
    intro u hu
    simp only [Ba.cells, List.mem_append, List.mem_cons, List.not_mem_nil, or_false, List.mem_map] at hu
    rcases hu with rfl | rfl | rfl | rfl | rfl <;> rfl
  keep h hk := by
    obtain ⟨v_ps, v_os, v_ts, rfl, hok, h0, h1, h2⟩ := h
    exact ⟨_, _, _, rfl, hok, h0.keep hk, h1.keep hk, h2.keep hk⟩
  wid h hs := by
    obtain ⟨v_ps, v_os, v_ts, rfl, hok, h0, h1, h2⟩ := h
    exact ⟨_, _, _, rfl, hok, h0.widen hs, h1.widen hs, h2.widen hs⟩
  tight h := by
    obtain ⟨v_ps, v_os, v_ts, rfl, hok, h0, h1, h2⟩ := h
    exact ⟨_, _, _, rfl, hok, h0.tight, h1.tight, h2.tight⟩
/-- a proposal -/
structure Pr where
  ep : Int
  rn : Int
  vl : Int
  rp : Int
  ba : Ba
  sb : Int
  mr : Int
abbrev Pr.cells (x : Pr) (v_ps v_os v_ts : Value) : List Value := [.int .i64 x.ep, .int .i64 x.rn, .int .i64 x.vl, .int .i64 x.rp, .int .i64 x.ba.ep, .int .u64 (x.ba.tm : Nat), v_ps, v_os, v_ts, .int .i64 x.sb, .int .i64 x.mr]
def Pr.OK (x : Pr) : Prop := I64 x.ep ∧ I64 x.rn ∧ I64 x.vl ∧ I64 x.rp ∧ x.ba.OK ∧ I64 x.sb ∧ I64 x.mr
def Pr.rd (R : Nat → Prop) (w : World) (cs : List Value) (x : Pr) : Prop := ∃ v_ps v_os v_ts, cs = x.cells v_ps v_os v_ts ∧ x.OK ∧ RdS PmR R w v_ps x.ba.ps ∧ RdS OpR R w v_os x.ba.os ∧ RdS TbR R w v_ts x.ba.ts
end Go.Proofs.Ytknpapcfhnhheaa

/- Copies and cuts of lists of things. -/
set_option maxRecDepth 100000
set_option linter.unusedVariables false
namespace Go.Proofs.Ytknpapcfhnhheaa
open Go Go.RowKit Go.Gv

theorem info_St : (Try.prog.info? 30).map (fun i => (i.zero, i.size, i.bytes)) = some (some (.agg #[.int .i64 0, .int .i64 0, .int .i64 0, .int .u8 0, .int .u8 0, .int .u8 0, .int .u8 0, .int .u8 0, .int .u8 0, .int .u8 0, .int .u8 0, .int .u8 0, .int .u8 0, .int .u8 0, .int .u8 0, .int .u8 0, .int .u8 0, .int .u8 0, .int .u8 0, .int .u8 0, .int .u8 0, .int .u8 0, .int .u8 0, .int .u8 0, .int .u8 0, .int .u8 0, .int .u8 0, .int .u8 0, .int .u8 0, .int .u8 0, .int .u8 0, .int .u8 0, .int .u8 0, .int .u8 0, .int .u8 0, .int .u64 0, .int .i64 0, .int .i64 0]), 38, 80) := by kernel_rfl
theorem info_Dn : (Try.prog.info? 34).map (fun i => (i.zero, i.size, i.bytes)) = some (some (.agg #[.int .i64 0, .int .i64 0, .int .i64 0, .int .i64 0]), 4, 32) := by kernel_rfl
theorem info_Ce : (Try.prog.info? 52).map (fun i => (i.zero, i.size, i.bytes)) = some (some (.agg #[.int .i64 0, .int .i64 0, .int .u8 0, .int .u8 0, .int .u8 0, .int .u8 0, .int .u8 0, .int .u8 0, .int .u8 0, .int .u8 0, .int .u8 0, .int .u8 0, .int .u8 0, .int .u8 0, .int .u8 0, .int .u8 0, .int .u8 0, .int .u8 0, .int .u8 0, .int .u8 0, .int .u8 0, .int .u8 0, .int .u8 0, .int .u8 0, .int .u8 0, .int .u8 0, .int .u8 0, .int .u8 0, .int .u8 0, .int .u8 0, .int .u8 0, .int .u8 0, .int .u8 0, .int .u8 0, .int .i64 0, .int .i64 0, .int .i64 0, .slice none 0 0]), 38, 96) := by kernel_rfl
theorem info_Pm : (Try.prog.info? 55).map (fun i => (i.zero, i.size, i.bytes)) = some (some (.agg #[.int .i64 0, .int .i64 0, .int .u64 0, .slice none 0 0, .int .i64 0, .int .i64 0]), 6, 64) := by kernel_rfl
theorem info_Op : (Try.prog.info? 87).map (fun i => (i.zero, i.size, i.bytes)) = some (some (.agg #[.int .i64 0, .slice none 0 0, .int .u8 0, .int .u8 0, .int .u8 0, .int .u8 0, .int .u8 0, .int .u8 0, .int .u8 0, .int .u8 0, .int .u8 0, .int .u8 0, .int .u8 0, .int .u8 0, .int .u8 0, .int .u8 0, .int .u8 0, .int .u8 0, .int .u8 0, .int .u8 0, .int .u8 0, .int .u8 0, .int .u8 0, .int .u8 0, .int .u8 0, .int .u8 0, .int .u8 0, .int .u8 0, .int .u8 0, .int .u8 0, .int .u8 0, .int .u8 0, .int .u8 0, .int .u8 0]), 34, 64) := by kernel_rfl
theorem info_Tb : (Try.prog.info? 90).map (fun i => (i.zero, i.size, i.bytes)) = some (some (.agg #[.int .i64 0, .slice none 0 0]), 2, 32) := by kernel_rfl

/-- a function that copies a list of things; one that cuts it -/
def CopiesS {α : Type} (A : Rep α) (e : TypeId) (F : FuncId) : Prop := ∀ (R2 : Nat → Prop) (v : Value) (l : List α) (w : World), RdS A R2 w v l → (∀ k, R2 k → k < w.heap.size) → l.length ≤ 1000000 →
  Calls Try.prog F #[v] w fun e' w' => ∃ v', e' = .returned v' ∧ OwS A e (New w w') R2 w' v' l ∧ Mod (fun _ => False) w w'
def CutsS {α : Type} (A : Rep α) (e : TypeId) (F : FuncId) : Prop := ∀ (R2 : Nat → Prop) (v : Value) (l : List α) (n : Nat) (w : World), RdS A R2 w v l → (∀ k, R2 k → k < w.heap.size) → n ≤ 1000000 →
  Calls Try.prog F #[v, .int .i64 (n : Int)] w fun e' w' => ∃ v', e' = .returned v' ∧ OwS A e (New w w') R2 w' v' (l.take n) ∧ Mod (fun _ => False) w w'
set_option maxHeartbeats 2000000 in
theorem Copy_St : CopiesS StR 30 101 := by
  intro R2 v l w hs hB2 hl
  obtain ⟨ao, cap, rfl⟩ := hs.shape
  have HS := Lib.hid hs
  have HBT := Lib.hid hB2
  clear hs hB2
  go_enter Try.func101, Try.ntmps101
  go_upto_region 1 with (fail)
  have HM0 := hid (Mod.refl (fun _ => False) w)
  go_upto_region 1 with (fail)
  generalize ha0 : Act.mk _ _ = a0
  have oe0 : a0.eval (.tmp 0) = .slice ao l.length cap := by rw [← ha0]; rfl
  have hsz0 : a0.tmps.size = 5 := by rw [← ha0]; rfl
  have HA0 := hid ha0
  clear ha0
  refine wp_region_Q0 5 hsz0 [3, 4, 2] [qi (.slice ao l.length cap), qv 0, qv 0] ⟨qi_stable, qv_stable, qv_stable, trivial⟩ [1] ⟨?_, ?_, ?_, trivial⟩ ?_
  · exact stq (fun E => ex_move rfl (E.v oe0))
  · exact stepq_chain rfl
  · refine stepq_env rfl rfl rfl fun _ _ _ _ _ _ _ _ _ hd _ _ => ?_
    have h1 := hd ⟨1, .data⟩ (by simp) rfl _ rfl
    exact qe_run rfl (wanted_none rfl) (ex_assign rfl rfl) QE.refl h1
  intro u1_0 hr
  have zu1_0 := hr.size
  have Cx1 := hid (hr.new (S := (fun _ => False)))
  clear hr
  refine QChain.go fun Z act E => ?_
  refine qc_appS (A := StR) (e := 30) rfl (wanted_none rfl) rfl (.agg #[.int .i64 0, .int .i64 0, .int .i64 0, .int .u8 0, .int .u8 0, .int .u8 0, .int .u8 0, .int .u8 0, .int .u8 0, .int .u8 0, .int .u8 0, .int .u8 0, .int .u8 0, .int .u8 0, .int .u8 0, .int .u8 0, .int .u8 0, .int .u8 0, .int .u8 0, .int .u8 0, .int .u8 0, .int .u8 0, .int .u8 0, .int .u8 0, .int .u8 0, .int .u8 0, .int .u8 0, .int .u8 0, .int .u8 0, .int .u8 0, .int .u8 0, .int .u8 0, .int .u8 0, .int .u8 0, .int .u8 0, .int .u64 0, .int .i64 0, .int .i64 0]) 80 Try.underlying50 info_St (by rfl) (of_decide_eq_true (by kernel_rfl)) rfl (E.d 0) (OwS.nil _ _ (fun _ => False) (fun _ => False) _) ((HS.out.mod Cx1.out (fun _ _ h => h))) (fun _ _ h => h) (by simp only [List.length_nil]; omega) (by simp only [List.length_nil]; rw [maxLen_val]; omega) ?_
  intro ao1 cap1 u1_1a qout hm
  have zu1_1a := hm.size
  refine ⟨hm.mono (fun _ _ h => h.elim), (fun _ => rfl), ?_⟩
  intro u1_1 hr
  have zu1_1 := hr.size
  have Hx2 := hid ((qout.widen (R' := (fun k => (New u1_0 u1_1a k))) (E' := (fun k => (R2 k))) (fun _ h => h.elim (fun h => h.elim) (fun h => h)) (by intro k h1; rcases h1 with h1 | h1 <;> first | omega | exact h1.elim | exact h1)).mod hr (by intro k h1 h2; omega) (by intro k h1 h2; have hb := HBT.out k h1; omega))
  have Cx3 := hid (Cx1.out.go hm hr)
  clear Cx1 hm hr Z act E qout
  refine QChain.nil fun vs hl hzz hrows hne => ?_
  obtain ⟨Z, hYZ, hZb, hV⟩ := hzz
  have f0 := fvi hV hl 0
  have f1 := fvc hV hl 1
  have f2 := fvc hV hl 2
  rw [show vs = [gw vs 0, gw vs 1, gw vs 2] from (gw_eta hl).trans rfl]
  have ha0 := HA0.out
  subst ha0
  clear HA0 hV hYZ hZb hsz0 hrows hne oe0
  simp only [putAll, Act.put, List.setIfInBounds_toArray, List.set_cons_zero, List.set_cons_succ, f0, f1, f2]
  clear hl f0 f1 f2
  go_wp2
  go_ret
  have hq := Hx2.out
  exact ⟨_, rfl, hq.widen (by intro k h; omega) (by intro k h; exact h), (HM0.out.trans Cx3.out (fun _ _ h => h.elim))⟩
set_option maxHeartbeats 2000000 in
theorem Copy_Dn : CopiesS DnR 34 93 := by
  intro R2 v l w hs hB2 hl
  obtain ⟨ao, cap, rfl⟩ := hs.shape
  have HS := Lib.hid hs
  have HBT := Lib.hid hB2
  clear hs hB2
  go_enter Try.func93, Try.ntmps93
  go_upto_region 1 with (fail)
  have HM0 := hid (Mod.refl (fun _ => False) w)
  go_upto_region 1 with (fail)
  generalize ha0 : Act.mk _ _ = a0
  have oe0 : a0.eval (.tmp 0) = .slice ao l.length cap := by rw [← ha0]; rfl
  have hsz0 : a0.tmps.size = 5 := by rw [← ha0]; rfl
  have HA0 := hid ha0
  clear ha0
  refine wp_region_Q0 5 hsz0 [3, 4, 2] [qi (.slice ao l.length cap), qv 0, qv 0] ⟨qi_stable, qv_stable, qv_stable, trivial⟩ [1] ⟨?_, ?_, ?_, trivial⟩ ?_
  · exact stq (fun E => ex_move rfl (E.v oe0))
  · exact stepq_chain rfl
  · refine stepq_env rfl rfl rfl fun _ _ _ _ _ _ _ _ _ hd _ _ => ?_
    have h1 := hd ⟨1, .data⟩ (by simp) rfl _ rfl
    exact qe_run rfl (wanted_none rfl) (ex_assign rfl rfl) QE.refl h1
  intro u1_0 hr
  have zu1_0 := hr.size
  have Cx1 := hid (hr.new (S := (fun _ => False)))
  clear hr
  refine QChain.go fun Z act E => ?_
  refine qc_appS (A := DnR) (e := 34) rfl (wanted_none rfl) rfl (.agg #[.int .i64 0, .int .i64 0, .int .i64 0, .int .i64 0]) 32 Try.underlying88 info_Dn (by rfl) (of_decide_eq_true (by kernel_rfl)) rfl (E.d 0) (OwS.nil _ _ (fun _ => False) (fun _ => False) _) ((HS.out.mod Cx1.out (fun _ _ h => h))) (fun _ _ h => h) (by simp only [List.length_nil]; omega) (by simp only [List.length_nil]; rw [maxLen_val]; omega) ?_
  intro ao1 cap1 u1_1a qout hm
  have zu1_1a := hm.size
  refine ⟨hm.mono (fun _ _ h => h.elim), (fun _ => rfl), ?_⟩
  intro u1_1 hr
  have zu1_1 := hr.size
  have Hx2 := hid ((qout.widen (R' := (fun k => (New u1_0 u1_1a k))) (E' := (fun k => (R2 k))) (fun _ h => h.elim (fun h => h.elim) (fun h => h)) (by intro k h1; rcases h1 with h1 | h1 <;> first | omega | exact h1.elim | exact h1)).mod hr (by intro k h1 h2; omega) (by intro k h1 h2; have hb := HBT.out k h1; omega))
  have Cx3 := hid (Cx1.out.go hm hr)
  clear Cx1 hm hr Z act E qout
  refine QChain.nil fun vs hl hzz hrows hne => ?_
  obtain ⟨Z, hYZ, hZb, hV⟩ := hzz
  have f0 := fvi hV hl 0
  have f1 := fvc hV hl 1
  have f2 := fvc hV hl 2
  rw [show vs = [gw vs 0, gw vs 1, gw vs 2] from (gw_eta hl).trans rfl]
  have ha0 := HA0.out
  subst ha0
  clear HA0 hV hYZ hZb hsz0 hrows hne oe0
  simp only [putAll, Act.put, List.setIfInBounds_toArray, List.set_cons_zero, List.set_cons_succ, f0, f1, f2]
  clear hl f0 f1 f2
  go_wp2
  go_ret
  have hq := Hx2.out
  exact ⟨_, rfl, hq.widen (by intro k h; omega) (by intro k h; exact h), (HM0.out.trans Cx3.out (fun _ _ h => h.elim))⟩
set_option maxHeartbeats 2000000 in
theorem Cut_St : CutsS StR 30 72 := by
  intro R2 v l n w hs hB2 hn
  obtain ⟨css, k1, k2, ⟨k3, ao, cap, rfl, hlc, hcm, k5, k6⟩, k7⟩ := id hs
  clear k1 k2 k3 k5 k6 k7
  rw [maxLen_val] at hcm
  have HS := Lib.hid hs
  have HBT := Lib.hid hB2
  clear hs hB2
  clear css
  go_enter Try.func72, Try.ntmps72
  go_upto_region 1 with (fail)
  have HM0 := hid (Mod.refl (fun _ => False) w)
  go_upto_region 1 with (fail)
  generalize ha0 : Act.mk _ _ = a0
  have oe0 : a0.eval (.tmp 0) = .slice ao l.length cap := by rw [← ha0]; rfl
  have oe1 : a0.eval (.tmp 1) = .int .i64 ((n : Nat) : Int) := by rw [← ha0]; rfl
  have hsz0 : a0.tmps.size = 12 := by rw [← ha0]; rfl
  have HA0 := hid ha0
  clear ha0
  refine wp_region_Q0 12 hsz0 [5, 6, 7, 8, 9, 10, 11, 4] [qi (.slice ao l.length cap), qi (.slice ao l.length cap), qi (.int .i64 l.length), qi (.int .i64 ((n : Nat) : Int)), qi (.int .i64 ((min l.length n : Nat) : Int)), qi (.slice ao (min l.length n) cap), qv 0, qv 0] ⟨qi_stable, qi_stable, qi_stable, qi_stable, qi_stable, qi_stable, qv_stable, qv_stable, trivial⟩ [6] ⟨?_, ?_, ?_, ?_, ?_, ?_, ?_, ?_, trivial⟩ ?_
  · exact stq (fun E => ex_move rfl (E.v oe0))
  · exact stq (fun E => ex_move rfl (E.v oe0))
  · exact stq (fun E => ex_lenS rfl (E.d 1) Try.underlying50)
  · exact stq (fun E => ex_move rfl (E.v oe1))
  · exact stq (fun E => ex_min (r := ((min l.length n : Nat) : Int)) rfl (E.d 2) (E.d 3) (by split <;> omega))
  · exact stq (fun E => ex_sliceTo (i := min l.length n) (s := 38) rfl Try.underlying50 (by kernel_rfl) (E.d 0) (E.d 4) (by omega))
  · exact stepq_chain rfl
  · refine stepq_env rfl rfl rfl fun _ _ _ _ _ _ _ _ _ hd _ _ => ?_
    have h6 := hd ⟨6, .data⟩ (by simp) rfl _ rfl
    exact qe_run rfl (wanted_none rfl) (ex_assign rfl rfl) QE.refl h6
  intro u1_0 hr
  have zu1_0 := hr.size
  have Cx1 := hid (hr.new (S := (fun _ => False)))
  clear hr
  refine QChain.go fun Z act E => ?_
  refine qc_callF (args := #[.slice ao (min l.length n) cap]) rfl (wanted_none rfl) rfl Try.func101 (args1 (E.d 5)) (Copy_St _ _ (l.take (min l.length n)) _ ((HS.out.mod Cx1.out (fun _ _ h => h)).upto (min l.length n) (by omega)) (by intro k h1; have hb := HBT.out k h1; omega) (by simp; omega)) ?_
  rintro e u1_1a ⟨v', rfl, qout, hm⟩
  have zu1_1a := hm.size
  refine ⟨_, rfl, hm.mono (fun _ _ h => h.elim), (fun _ => rfl), ?_⟩
  intro u1_1 hr
  have zu1_1 := hr.size
  have Hx2 := hid ((qout.widen (R' := (fun k => (New u1_0 u1_1a k))) (E' := (fun k => (R2 k))) (fun _ h => h) (fun _ h => h)).mod hr (by intro k h1 h2; omega) (by intro k h1 h2; have hb := HBT.out k h1; omega))
  have Cx3 := hid (Cx1.out.go hm hr)
  clear Cx1 hm hr Z act E qout
  refine QChain.nil fun vs hl hzz hrows hne => ?_
  obtain ⟨Z, hYZ, hZb, hV⟩ := hzz
  have f0 := fvi hV hl 0
  have f1 := fvi hV hl 1
  have f2 := fvi hV hl 2
  have f3 := fvi hV hl 3
  have f4 := fvi hV hl 4
  have f6 := fvc hV hl 6
  have f7 := fvc hV hl 7
  rw [show vs = [gw vs 0, gw vs 1, gw vs 2, gw vs 3, gw vs 4, gw vs 5, gw vs 6, gw vs 7] from (gw_eta hl).trans rfl]
  have ha0 := HA0.out
  subst ha0
  clear HA0 hV hYZ hZb hsz0 hrows hne oe0 oe1
  simp only [putAll, Act.put, List.setIfInBounds_toArray, List.set_cons_zero, List.set_cons_succ, f0, f1, f2, f3, f4, f6, f7]
  clear hl f0 f1 f2 f3 f4 f6 f7
  go_wp2
  go_ret
  have hq := Hx2.out
  rw [show l.take (min l.length n) = l.take n by rw [Nat.min_comm, ← List.take_take, List.take_length]] at hq
  exact ⟨v', rfl, hq.widen (by intro k h; omega) (fun _ h => h), (HM0.out.trans Cx3.out (fun _ _ h => h.elim))⟩
set_option maxHeartbeats 2000000 in
theorem Cut_Dn : CutsS DnR 34 78 := by
  intro R2 v l n w hs hB2 hn
  obtain ⟨css, k1, k2, ⟨k3, ao, cap, rfl, hlc, hcm, k5, k6⟩, k7⟩ := id hs
  clear k1 k2 k3 k5 k6 k7
  rw [maxLen_val] at hcm
  have HS := Lib.hid hs
  have HBT := Lib.hid hB2
  clear hs hB2
  clear css
  go_enter Try.func78, Try.ntmps78
  go_upto_region 1 with (fail)
  have HM0 := hid (Mod.refl (fun _ => False) w)
  go_upto_region 1 with (fail)
  generalize ha0 : Act.mk _ _ = a0
  have oe0 : a0.eval (.tmp 0) = .slice ao l.length cap := by rw [← ha0]; rfl
  have oe1 : a0.eval (.tmp 1) = .int .i64 ((n : Nat) : Int) := by rw [← ha0]; rfl
  have hsz0 : a0.tmps.size = 12 := by rw [← ha0]; rfl
  have HA0 := hid ha0
  clear ha0
  refine wp_region_Q0 12 hsz0 [5, 6, 7, 8, 9, 10, 11, 4] [qi (.slice ao l.length cap), qi (.slice ao l.length cap), qi (.int .i64 l.length), qi (.int .i64 ((n : Nat) : Int)), qi (.int .i64 ((min l.length n : Nat) : Int)), qi (.slice ao (min l.length n) cap), qv 0, qv 0] ⟨qi_stable, qi_stable, qi_stable, qi_stable, qi_stable, qi_stable, qv_stable, qv_stable, trivial⟩ [6] ⟨?_, ?_, ?_, ?_, ?_, ?_, ?_, ?_, trivial⟩ ?_
  · exact stq (fun E => ex_move rfl (E.v oe0))
  · exact stq (fun E => ex_move rfl (E.v oe0))
  · exact stq (fun E => ex_lenS rfl (E.d 1) Try.underlying88)
  · exact stq (fun E => ex_move rfl (E.v oe1))
  · exact stq (fun E => ex_min (r := ((min l.length n : Nat) : Int)) rfl (E.d 2) (E.d 3) (by split <;> omega))
  · exact stq (fun E => ex_sliceTo (i := min l.length n) (s := 4) rfl Try.underlying88 (by kernel_rfl) (E.d 0) (E.d 4) (by omega))
  · exact stepq_chain rfl
  · refine stepq_env rfl rfl rfl fun _ _ _ _ _ _ _ _ _ hd _ _ => ?_
    have h6 := hd ⟨6, .data⟩ (by simp) rfl _ rfl
    exact qe_run rfl (wanted_none rfl) (ex_assign rfl rfl) QE.refl h6
  intro u1_0 hr
  have zu1_0 := hr.size
  have Cx1 := hid (hr.new (S := (fun _ => False)))
  clear hr
  refine QChain.go fun Z act E => ?_
  refine qc_callF (args := #[.slice ao (min l.length n) cap]) rfl (wanted_none rfl) rfl Try.func93 (args1 (E.d 5)) (Copy_Dn _ _ (l.take (min l.length n)) _ ((HS.out.mod Cx1.out (fun _ _ h => h)).upto (min l.length n) (by omega)) (by intro k h1; have hb := HBT.out k h1; omega) (by simp; omega)) ?_
  rintro e u1_1a ⟨v', rfl, qout, hm⟩
  have zu1_1a := hm.size
  refine ⟨_, rfl, hm.mono (fun _ _ h => h.elim), (fun _ => rfl), ?_⟩
  intro u1_1 hr
  have zu1_1 := hr.size
  have Hx2 := hid ((qout.widen (R' := (fun k => (New u1_0 u1_1a k))) (E' := (fun k => (R2 k))) (fun _ h => h) (fun _ h => h)).mod hr (by intro k h1 h2; omega) (by intro k h1 h2; have hb := HBT.out k h1; omega))
  have Cx3 := hid (Cx1.out.go hm hr)
  clear Cx1 hm hr Z act E qout
  refine QChain.nil fun vs hl hzz hrows hne => ?_
  obtain ⟨Z, hYZ, hZb, hV⟩ := hzz
  have f0 := fvi hV hl 0
  have f1 := fvi hV hl 1
  have f2 := fvi hV hl 2
  have f3 := fvi hV hl 3
  have f4 := fvi hV hl 4
  have f6 := fvc hV hl 6
  have f7 := fvc hV hl 7
  rw [show vs = [gw vs 0, gw vs 1, gw vs 2, gw vs 3, gw vs 4, gw vs 5, gw vs 6, gw vs 7] from (gw_eta hl).trans rfl]
  have ha0 := HA0.out
  subst ha0
  clear HA0 hV hYZ hZb hsz0 hrows hne oe0 oe1
  simp only [putAll, Act.put, List.setIfInBounds_toArray, List.set_cons_zero, List.set_cons_succ, f0, f1, f2, f3, f4, f6, f7]
  clear hl f0 f1 f2 f3 f4 f6 f7
  go_wp2
  go_ret
  have hq := Hx2.out
  rw [show l.take (min l.length n) = l.take n by rw [Nat.min_comm, ← List.take_take, List.take_length]] at hq
  exact ⟨v', rfl, hq.widen (by intro k h; omega) (fun _ h => h), (HM0.out.trans Cx3.out (fun _ _ h => h.elim))⟩
end Go.Proofs.Ytknpapcfhnhheaa

/- Certificates and promises that are cut. -/
set_option maxRecDepth 100000
set_option linter.unusedVariables false
namespace Go.Proofs.Ytknpapcfhnhheaa
open Go Go.RowKit Go.Gv


/-- what the laws leave of a certificate, a promise -/
def cutCe (x : Ce) : Ce := { x with l := x.l.take 5 }
def cutPm (x : Pm) : Pm := { x with l := (x.l.take 3).map cutCe }
/-- a function that gives a thing anew, cut -/
def CutR {α : Type} (A : Rep α) (F : FuncId) (f : α → α) : Prop := ∀ (R2 : Nat → Prop) (x : α) (cs : List Value) (w : World), A.rd R2 w cs x → (∀ k, R2 k → k < w.heap.size) →
  Calls Try.prog F #[.agg cs.toArray] w fun e w' => ∃ cs', e = .returned (.agg cs'.toArray) ∧ A.rd (fun k => R2 k ∨ New w w' k) w' cs' (f x) ∧ Mod (fun _ => False) w w'
theorem size_ce : (Try.prog.info? 52).map (·.size) = some (37 + 1) := by kernel_rfl
theorem one_ce (c : Cm) (v : Value) (h : v.oneCell' = true) : ∀ u ∈ c.cells ++ [v], u.oneCell' = true := by
  intro u hu
  rw [List.mem_append] at hu
  rcases hu with hu | hu
  · exact Cm_one _ _ hu
  · simp at hu; subst hu; exact h
theorem take_two {α : Type} {l : List α} {k n : Nat} (hk : k ≤ n) (h : k = n ∨ l.length ≤ k) : l.take k = l.take n := by
  rcases h with rfl | h
  · rfl
  · rw [List.take_of_length_le h, List.take_of_length_le (by omega)]
theorem lay_l (c : Cm) (u v : Value) (hl : c.h.length = 32) : lay (c.cells ++ [u]).toArray 37 [v] = (c.cells ++ [v]).toArray := by
  have h37 := Cm.len hl
  simp [lay, h37]
set_option maxHeartbeats 4000000 in
theorem LCert_c : CutR CeR 21 cutCe := by
  intro R2 x cs w hx hB2
  obtain ⟨v_l, rfl, hok, hs0⟩ := hx
  obtain ⟨ao, cap, rfl⟩ := hs0.shape
  have HS := Lib.hid hs0
  have HBT := Lib.hid hB2
  have HOK := Lib.hid hok
  clear hs0 hB2 hok
  go_enter Try.func21, Try.ntmps21
  go_upto_region 1 with (fail)
  obtain ⟨w1, hw1⟩ : ∃ zz, zz = ((w.alloc (.cells (x.cells (.slice ao x.l.length cap) : List Value).toArray 52)).alloc (.cells #[.int .i64 0, .int .i64 0, .int .u8 0, .int .u8 0, .int .u8 0, .int .u8 0, .int .u8 0, .int .u8 0, .int .u8 0, .int .u8 0, .int .u8 0, .int .u8 0, .int .u8 0, .int .u8 0, .int .u8 0, .int .u8 0, .int .u8 0, .int .u8 0, .int .u8 0, .int .u8 0, .int .u8 0, .int .u8 0, .int .u8 0, .int .u8 0, .int .u8 0, .int .u8 0, .int .u8 0, .int .u8 0, .int .u8 0, .int .u8 0, .int .u8 0, .int .u8 0, .int .u8 0, .int .u8 0, .int .i64 0, .int .i64 0, .int .i64 0, .slice none 0 0] 52)) := ⟨_, rfl⟩
  change Code.wp _ _ _ _ ((w.alloc (.cells (x.cells (.slice ao x.l.length cap) : List Value).toArray 52)).alloc (.cells #[.int .i64 0, .int .i64 0, .int .u8 0, .int .u8 0, .int .u8 0, .int .u8 0, .int .u8 0, .int .u8 0, .int .u8 0, .int .u8 0, .int .u8 0, .int .u8 0, .int .u8 0, .int .u8 0, .int .u8 0, .int .u8 0, .int .u8 0, .int .u8 0, .int .u8 0, .int .u8 0, .int .u8 0, .int .u8 0, .int .u8 0, .int .u8 0, .int .u8 0, .int .u8 0, .int .u8 0, .int .u8 0, .int .u8 0, .int .u8 0, .int .u8 0, .int .u8 0, .int .u8 0, .int .u8 0, .int .i64 0, .int .i64 0, .int .i64 0, .slice none 0 0] 52))
  rw [← hw1]
  have HB1 := hid (show Cs w1 (w.heap.size) (x.cells (.slice ao x.l.length cap) : List Value).toArray 52 by rw [hw1]; exact (Cs.new _ _ _).alloc _)
  have HB2 := hid (show Cs w1 (w.heap.size + 1) #[.int .i64 0, .int .i64 0, .int .u8 0, .int .u8 0, .int .u8 0, .int .u8 0, .int .u8 0, .int .u8 0, .int .u8 0, .int .u8 0, .int .u8 0, .int .u8 0, .int .u8 0, .int .u8 0, .int .u8 0, .int .u8 0, .int .u8 0, .int .u8 0, .int .u8 0, .int .u8 0, .int .u8 0, .int .u8 0, .int .u8 0, .int .u8 0, .int .u8 0, .int .u8 0, .int .u8 0, .int .u8 0, .int .u8 0, .int .u8 0, .int .u8 0, .int .u8 0, .int .u8 0, .int .u8 0, .int .i64 0, .int .i64 0, .int .i64 0, .slice none 0 0] 52 by rw [hw1]; exact Cs_newN _ _ _ (by simp))
  have hm : Mod (fun _ => False) w w1 := by rw [hw1]; exact ((Mod.refl _ _).alloc _).alloc _
  have HM0 := hid (show Mod (fun _ => False) w w1 from hm.mono (fun _ _ h => h.elim))
  have hs1 : w1.heap.size = w.heap.size + 2 := by rw [hw1]; simp
  have Hx1 := hid (HS.out.mod hm (fun _ _ h => h))
  clear HS
  clear hw1 hm
  go_upto_region 1 with (fail)
  generalize ha0 : Act.mk _ _ = a0
  have oe1 : a0.eval (.tmp 1) = .pointer (some ⟨w.heap.size, 0, none⟩) := by rw [← ha0]; rfl
  have hsz0 : a0.tmps.size = 8 := by rw [← ha0]; rfl
  have HA0 := hid ha0
  clear ha0
  refine wp_region_Q1 8 hsz0 [3, 4, 5, 6, 12] (fun k => (k = w.heap.size)) (fun k j => (k = 1 ∧ ((j = w.heap.size)))) (fun _ _ h => h.2) [qi (.pointer (some ⟨w.heap.size, 37, none⟩)), qi (.slice ao x.l.length cap), qv 0, qi (.pointer (some ⟨w.heap.size, 37, none⟩)), qv 1] ⟨qi_stable, qi_stable, qv_stable, qi_stable, qv_stable, trivial⟩ [2, 4] ⟨?_, ?_, ?_, ?_, ?_, trivial⟩ ?_
  · exact stq (fun E => ex_field rfl Try.underlying52 rfl (by kernel_rfl) (E.v oe1))
  · refine stepq_env rfl rfl rfl fun _ _ _ _ _ _ hm0 _ _ hd hub _ => ?_
    have h0 := hd ⟨0, .data⟩ (by simp) rfl _ rfl
    refine qe_run rfl (wanted_none rfl) (ex_load1 rfl Try.underlying50 rfl h0 (Cs.post1 (pre := []) (mid := x.c.cells) (post := [.slice ao x.l.length cap]) (m := 37) (k := 0) (HB1.out.mod hm0 (by intro h2; have hu := hub 1 4 rfl (by kernel_rfl); rcases h2 with ⟨h0, kk, hk, h2⟩ | h2 <;> omega)) (Cm.len HOK.out.2.1) rfl rfl)) QE.refl ?_
    rfl
  · exact stepq_chain rfl
  · exact stq (fun E => ex_field rfl Try.underlying52 rfl (by kernel_rfl) (E.v oe1))
  · exact stepq_chain rfl
  intro u1_0 hr
  have zu1_0 := hr.size
  have Cx2 := hid (hr.new (S := (fun k => (k = w.heap.size))))
  have Hx3 := hid (HB1.out.mod hr (by intro h2; omega))
  clear HB1
  clear hr
  refine QChain.go fun Z act E => ?_
  refine qc_callF (args := #[.slice ao x.l.length cap, .int .i64 5]) rfl (wanted_none rfl) rfl Try.func72 (args2 (E.d 1) rfl) (Cut_St _ _ x.l 5 _ (Hx1.out.mod Cx2.out (by intro k h1 h2; have hb := HBT.out k h1; omega)) (by intro k h1; have hb := HBT.out k h1; omega) (by omega)) ?_
  rintro e u1_1a ⟨v', rfl, qout, hm⟩
  obtain ⟨ao', cap', rfl⟩ := qout.shape
  have zu1_1a := hm.size
  refine ⟨_, rfl, hm.mono (fun _ _ h => h.elim), (fun _ => rfl), ?_⟩
  intro u1_1 hr
  have zu1_1 := hr.size
  have Hx4 := hid ((qout.widen (R' := (fun k => (New u1_0 u1_1a k))) (E' := (fun k => (R2 k))) (fun _ h => h) (fun _ h => h)).mod hr (by intro k h1 h2; omega) (by intro k h1 h2; have hb := HBT.out k h1; omega))
  have hmr := Mod.after hm hr
  have Hx5 := hid (Hx3.out.mod hmr (by intro h2; omega))
  clear Hx3
  clear hmr
  have Cx6 := hid (Cx2.out.go hm hr)
  clear Cx2 hm hr Z act E qout
  refine QChain.go fun Z act E => ?_
  refine qc_store rfl (wanted_none rfl) rfl Hx5.out (off := 37) (vs := [Value.slice ao' (x.l.take 5).length cap']) (by kernel_rfl) (by intro u hu; simp at hu; subst hu; rfl) (by simp [Ce.cells, Cm.len HOK.out.2.1]) (E.d 3) (by rw [show act.eval ((.tmp 5)) = _ from (chv (v := .slice ao' (x.l.take 5).length cap') (E.d 2))]; rfl) ?_
  intro u1_2a qc0 hm
  have qB1 : Cs u1_2a (w.heap.size) ((x.c.cells ++ [Value.slice ao' (x.l.take 5).length cap']) : List Value).toArray 52 := by rw [show lay _ 37 _ = ((x.c.cells ++ [Value.slice ao' (x.l.take 5).length cap']) : List Value).toArray from lay_l x.c _ _ HOK.out.2.1] at qc0; exact qc0
  clear qc0
  have zu1_2a := hm.size
  refine ⟨hm.mono (by intro k hk h; omega), (fun _ => rfl), ?_⟩
  intro u1_2 hr
  have zu1_2 := hr.size
  have Hx7 := hid (qB1.mod hr (by intro h2; omega))
  have hmr := hm.two hr
  have Hx8 := hid (Hx4.out.mod hmr (by intro k h1 h2; omega) (by intro k h1 h2; have hb := HBT.out k h1; omega))
  clear Hx4
  clear hmr
  have Cx9 := hid (Cx6.out.goM hm hr (fun _ _ h => h))
  clear Cx6 hm hr Z act E qB1 Hx5
  refine QChain.nil fun vs hl hzz hrows hne => ?_
  obtain ⟨Z, hYZ, hZb, hV⟩ := hzz
  have f2 := fvc hV hl 2
  rw [show vs = [gw vs 0, gw vs 1, gw vs 2, gw vs 3, gw vs 4] from (gw_eta hl).trans rfl]
  have ha0 := HA0.out
  subst ha0
  clear HA0 hV hYZ hZb hsz0 hrows hne oe1
  simp only [putAll, Act.put, List.setIfInBounds_toArray, List.set_cons_zero, List.set_cons_succ, List.set_nil, f2]
  clear hl f2
  go_upto_region 2 with (fail)
  generalize ha0 : Act.mk _ _ = a0
  have oe1 : a0.eval (.tmp 1) = .pointer (some ⟨w.heap.size, 0, none⟩) := by rw [← ha0]; rfl
  have oe2 : a0.eval (.tmp 2) = .pointer (some ⟨w.heap.size + 1, 0, none⟩) := by rw [← ha0]; rfl
  have hsz0 : a0.tmps.size = 8 := by rw [← ha0]; rfl
  have HA0 := hid ha0
  clear ha0
  refine wp_region_Q1 8 hsz0 [7, 9] (fun k => (k = w.heap.size + 1)) (fun k j => (k = 0 ∧ ((j = w.heap.size + 1)))) (fun _ _ h => h.2) [qi (.agg (x.c.cells ++ [Value.slice ao' (x.l.take 5).length cap']).toArray), qv 0] ⟨qi_stable, qv_stable, trivial⟩ [1] ⟨?_, ?_, trivial⟩ ?_
  · exact stq (fun E => ex_loadA rfl Try.underlying52 rfl (off := 0) (cs := x.c.cells ++ [Value.slice ao' (x.l.take 5).length cap']) (by rw [List.length_append, Cm.len HOK.out.2.1]; exact size_ce) (E.v oe1) (Cs.whole (Hx7.out.mod E.m (by intro h2; omega))))
  · exact stepq_chain rfl
  intro u2_0 hr
  have zu2_0 := hr.size
  have Cx10 := hid (hr.new (S := (fun k => (k = w.heap.size + 1))))
  have Hx11 := hid ((HB2.out.mod Cx9.out (by intro h2; omega)).mod hr (by intro h2; omega))
  clear HB2
  clear hr
  refine QChain.go fun Z act E => ?_
  refine qc_store rfl (wanted_none rfl) rfl Hx11.out (off := 0) (vs := (x.c.cells ++ [Value.slice ao' (x.l.take 5).length cap'])) (by rw [List.length_append, Cm.len HOK.out.2.1]; exact size_ce) (one_ce _ _ rfl) (by simp [Cm.len HOK.out.2.1]) (E.v oe2) (by rw [show act.eval ((.tmp 7)) = _ from (E.d 0)]; rfl) ?_
  intro u2_1a qc0 hm
  have qB2 : Cs u2_1a (w.heap.size + 1) ((x.c.cells ++ [Value.slice ao' (x.l.take 5).length cap']) : List Value).toArray 52 := by rw [show lay _ 0 _ = ((x.c.cells ++ [Value.slice ao' (x.l.take 5).length cap']) : List Value).toArray from lay_whole _ _ (by simp [Cm.len HOK.out.2.1])] at qc0; exact qc0
  clear qc0
  have zu2_1a := hm.size
  refine ⟨hm.mono (by intro k hk h; omega), (fun _ => rfl), ?_⟩
  intro u2_1 hr
  have zu2_1 := hr.size
  have Hx12 := hid (qB2.mod hr (by intro h2; omega))
  have Cx13 := hid (Cx10.out.goM hm hr (fun _ _ h => h))
  clear Cx10 hm hr Z act E qB2 Hx11
  refine QChain.nil fun vs hl hzz hrows hne => ?_
  obtain ⟨Z, hYZ, hZb, hV⟩ := hzz
  rw [show vs = [gw vs 0, gw vs 1] from (gw_eta hl).trans rfl]
  have ha0 := HA0.out
  subst ha0
  clear HA0 hV hYZ hZb hsz0 hrows hne oe1 oe2
  simp only [putAll, Act.put, List.setIfInBounds_toArray, List.set_cons_zero, List.set_cons_succ, List.set_nil]
  clear hl
  go_wp2
  have hq := (Hx8.out.mod Cx13.out (by intro k h1 h2; omega) (by intro k h1 h2; have hb := HBT.out k h1; omega))
  refine bodyPost_ret (results_cellA rfl _ _ (w.heap.size + 1) (x.c.cells ++ [Value.slice ao' (x.l.take 5).length cap']) rfl (fun k u hu => by rw [Hx12.out.cell]; simpa using hu) Try.underlying52 rfl (by rw [List.length_append, Cm.len HOK.out.2.1]; exact size_ce)) rfl ⟨_, rfl, ⟨_, rfl, HOK.out, hq.rd.widen ?_⟩, ((HM0.out.trans Cx9.out (by intro k h1 h2; omega)).trans Cx13.out (by intro k h1 h2; omega))⟩
  intro k h
  (try dsimp only at h ⊢)
  rcases h with h | h
  · right; omega
  · exact Or.inl h
set_option maxHeartbeats 4000000 in
theorem LPromise_c : CutR PmR 23 cutPm := by
  intro R2 x cs w hx hB2
  obtain ⟨v_l, rfl, hok, hs0⟩ := hx
  obtain ⟨ao, cap, rfl⟩ := hs0.shape
  have HS := Lib.hid hs0
  have HBT := Lib.hid hB2
  have HOK := Lib.hid hok
  clear hs0 hB2 hok
  go_enter Try.func23, Try.ntmps23
  go_upto_region 1 with (fail)
  obtain ⟨w1, hw1⟩ : ∃ zz, zz = ((w.alloc (.cells (x.cells (.slice ao x.l.length cap) : List Value).toArray 55)).alloc (.cells #[.int .i64 0, .int .i64 0, .int .u64 0, .slice none 0 0, .int .i64 0, .int .i64 0] 55)) := ⟨_, rfl⟩
  change Code.wp _ _ _ _ ((w.alloc (.cells (x.cells (.slice ao x.l.length cap) : List Value).toArray 55)).alloc (.cells #[.int .i64 0, .int .i64 0, .int .u64 0, .slice none 0 0, .int .i64 0, .int .i64 0] 55))
  rw [← hw1]
  have HB1 := hid (show Cs w1 (w.heap.size) (x.cells (.slice ao x.l.length cap) : List Value).toArray 55 by rw [hw1]; exact (Cs.new _ _ _).alloc _)
  have HB2 := hid (show Cs w1 (w.heap.size + 1) #[.int .i64 0, .int .i64 0, .int .u64 0, .slice none 0 0, .int .i64 0, .int .i64 0] 55 by rw [hw1]; exact Cs_newN _ _ _ (by simp))
  have hm : Mod (fun _ => False) w w1 := by rw [hw1]; exact ((Mod.refl _ _).alloc _).alloc _
  have HM0 := hid (show Mod (fun _ => False) w w1 from hm.mono (fun _ _ h => h.elim))
  have hs1 : w1.heap.size = w.heap.size + 2 := by rw [hw1]; simp
  have Hx1 := hid (HS.out.mod hm (fun _ _ h => h))
  clear HS
  clear hw1 hm
  go_wp2
  go_loopw [3, 4] (fun ta ti wr => ∃ k : Nat, ti = .int .i64 (k : Int) ∧ k ≤ x.l.length ∧ k ≤ 3 ∧ w1.heap.size ≤ wr.heap.size ∧ OwS CeR 52 (fun b => w1.heap.size ≤ b ∧ b < wr.heap.size) (fun b => R2 b ∨ (w1.heap.size ≤ b ∧ b < wr.heap.size)) wr ta ((x.l.take k).map cutCe) ∧ RdS CeR R2 wr (.slice ao x.l.length cap) x.l ∧ Cs wr (w.heap.size) (x.cells (.slice ao x.l.length cap) : List Value).toArray 55 ∧ Cs wr (w.heap.size + 1) #[.int .i64 0, .int .i64 0, .int .u64 0, .slice none 0 0, .int .i64 0, .int .i64 0] 55 ∧ Mod (fun _ => False) w wr) (fun _ ti _ => x.l.length - (intOf ti).toNat)
  case atStart => exact ⟨0, rfl, Nat.zero_le _, Nat.zero_le _, Nat.le_refl _, OwS.nil _ _ _ _ _, Hx1.out, HB1.out, HB2.out, HM0.out⟩
  case round =>
    obtain ⟨k1, rfl, hk, hkN, hz, ha, hk_0, hk_1, hk_2, hm⟩ := hrel
    obtain ⟨wl1, rfl⟩ : ∃ x, x = wr := ⟨_, rfl⟩
    obtain ⟨aol1, capl1, rfl⟩ := ha.shape
    have HAL1 := Lib.hid ha
    have HKL1_0 := Lib.hid hk_0
    have HKL1_1 := Lib.hid hk_1
    have HKL1_2 := Lib.hid hk_2
    have HML1 := Lib.hid hm
    clear ha hm hk_0 hk_1 hk_2 Hx1 HB1 HB2 HM0
    by_cases hlt1 : k1 < x.l.length ∧ k1 < 3
    · obtain ⟨hlt1, hlN1⟩ := hlt1
      go_upto_region 3 with (fail)
      generalize ha0 : Act.mk _ _ = a0
      have oe1 : a0.eval (.tmp 1) = .pointer (some ⟨w.heap.size, 0, none⟩) := by rw [← ha0]; rfl
      have oe4 : a0.eval (.tmp 4) = .int .i64 ((k1 : Nat) : Int) := by rw [← ha0]; rfl
      have hsz0 : a0.tmps.size = 28 := by rw [← ha0]; rfl
      have HA0 := hid ha0
      clear ha0
      refine wp_region_Q0 28 hsz0 [5, 6, 7, 8, 9, 10, 11, 12, 13] [qi (.int .i64 ((k1 : Nat) : Int)), qi (.pointer (some ⟨w.heap.size, 3, none⟩)), qi (.slice ao x.l.length cap), qi (.int .i64 x.l.length), qi (.bool true), qi (.bool true), qi (.int .i64 ((k1 : Nat) : Int)), qi (.bool true), qi (.bool true)] ⟨qi_stable, qi_stable, qi_stable, qi_stable, qi_stable, qi_stable, qi_stable, qi_stable, qi_stable, trivial⟩ [] ⟨?_, ?_, ?_, ?_, ?_, ?_, ?_, ?_, ?_, trivial⟩ ?_
      · exact stq (fun E => ex_move rfl (E.v oe4))
      · exact stq (fun E => ex_field rfl Try.underlying55 rfl (by kernel_rfl) (E.v oe1))
      · exact stq (fun E => ex_load1 rfl Try.underlying53 rfl (E.d 1) (Cs.lit1 (HKL1_1.out.mod E.m.old (by intro h2; omega)) rfl))
      · exact stq (fun E => ex_lenS rfl (E.d 2) Try.underlying53)
      · exact stq (fun E => ex_binE rfl (E.d 0) (E.d 3) (guard_ints _ _ _ _ _ _) (run_lss_i _ _ _ Try.underlying3) (congrArg Value.bool (decide_eq_true (by omega))))
      · exact stq (fun E => ex_move rfl (E.d 4))
      · refine stepq_env rfl rfl rfl fun _ _ _ _ _ _ _ hout hsz hd _ _ => ?_
        have h5 := hd ⟨5, .guard⟩ (by simp) rfl _ rfl
        refine qe_run rfl ((wanted_of rfl rfl (hsz 10 (by decide)) h5).trans rfl) (ex_move rfl ((hout 4 (by decide)).trans oe4)) QE.refl ?_
        rfl
      · refine stepq_env rfl rfl rfl fun _ _ _ _ _ _ _ _ hsz hd _ _ => ?_
        have h5 := hd ⟨5, .guard⟩ (by simp) rfl _ rfl
        have h6 := hd ⟨6, .data⟩ (by simp) rfl _ rfl
        refine qe_run rfl ((wanted_of rfl rfl (hsz 10 (by decide)) h5).trans rfl) (ex_binE rfl h6 rfl (guard_ints _ _ _ _ _ _) (run_lss_i _ _ _ Try.underlying3) (congrArg Value.bool (decide_eq_true (by omega)))) QE.refl ?_
        rfl
      · exact stq (fun E => ex_pick rfl (E.d 5) (E.d 7) rfl)
      intro u3_0 hr
      have zu3_0 := hr.size
      have Cx2 := hid (hr.new (S := (fun _ => False)))
      clear hr
      refine QChain.nil fun vs hl hzz hrows hne => ?_
      obtain ⟨Z, hYZ, hZb, hV⟩ := hzz
      have f0 := fvi hV hl 0
      have f3 := fvi hV hl 3
      have f5 := fvi hV hl 5
      have f6 := fvi hV hl 6
      have f8 := fvi hV hl 8
      rw [show vs = [gw vs 0, gw vs 1, gw vs 2, gw vs 3, gw vs 4, gw vs 5, gw vs 6, gw vs 7, gw vs 8] from (gw_eta hl).trans rfl]
      have ha0 := HA0.out
      subst ha0
      clear HA0 hV hYZ hZb hsz0 hrows hne oe1 oe4
      simp only [putAll, Act.put, List.setIfInBounds_toArray, List.set_cons_zero, List.set_cons_succ, f0, f3, f5, f6, f8]
      clear hl f0 f3 f5 f6 f8
      have hat := (HKL1_0.out.mod Cx2.out (fun _ _ h => h)).at hlt1
      obtain ⟨g1, o1, cs1, eao, hrg, hrd, hcs⟩ := hat
      subst eao
      have hcl : cs1.length = 38 := CeR.len hrd
      have HCL1 := Lib.hid hcl
      have HAT1 := hid (show CellsAt R2 u3_0 g1 (o1 + k1 * 38) cs1 from ⟨hrg, hcs⟩)
      have HRD1 := Lib.hid hrd
      have HOC1 := hid (CeR.one hrd)
      clear hcl hcs hrd hrg
      have HE1 : Hid (((x.l.take k1).map cutCe) ++ [cutCe x.l[k1]] = (x.l.take (k1 + 1)).map cutCe) := hid (by rw [List.take_succ_eq_append_getElem hlt1, List.map_append]; rfl)
      have HLN1 : Hid (((x.l.take k1).map cutCe).length = k1) := hid (by rw [List.length_map, List.length_take]; omega)
      go_upto_region 5 with (fail)
      generalize ha0 : Act.mk _ _ = a0
      have oe1 : a0.eval (.tmp 1) = .pointer (some ⟨w.heap.size, 0, none⟩) := by rw [← ha0]; rfl
      have oe3 : a0.eval (.tmp 3) = .slice aol1 ((x.l.take k1).map cutCe).length capl1 := by rw [← ha0]; rfl
      have oe4 : a0.eval (.tmp 4) = .int .i64 ((k1 : Nat) : Int) := by rw [← ha0]; rfl
      have hsz0 : a0.tmps.size = 28 := by rw [← ha0]; rfl
      have HA0 := hid ha0
      clear ha0
      refine wp_region_Q1 28 hsz0 [16, 17, 18, 19, 20, 21, 22, 23, 24, 3] (fun k => (New w1 wl1 k)) (fun k j => (k = 2 ∧ ((New w1 wl1 j)))) (fun _ _ h => h.2) [qi (.slice aol1 ((x.l.take k1).map cutCe).length capl1), qi (.pointer (some ⟨w.heap.size, 3, none⟩)), qi (.slice (some ⟨g1, o1, none⟩) x.l.length cap), qi (.int .i64 ((k1 : Nat) : Int)), qi (.pointer (some ⟨g1, o1 + k1 * 38, none⟩)), qi (.agg cs1.toArray), qv 0, qv 1, qv 2, qv 2] ⟨qi_stable, qi_stable, qi_stable, qi_stable, qi_stable, qi_stable, qv_stable, qv_stable, qv_stable, qv_stable, trivial⟩ [6, 7, 8] ⟨?_, ?_, ?_, ?_, ?_, ?_, ?_, ?_, ?_, ?_, trivial⟩ ?_
      · exact stq (fun E => ex_move rfl ((E.pre 9 3 rfl (by kernel_rfl)).trans oe3))
      · exact stq (fun E => ex_field rfl Try.underlying55 rfl (by kernel_rfl) (E.v oe1))
      · exact stq (fun E => ex_load1 rfl Try.underlying53 rfl (E.d 1) (Cs.lit1 ((HKL1_1.out.mod Cx2.out (fun h => h)).mod E.m (by intro h2; omega)) rfl))
      · exact stq (fun E => ex_move rfl (E.v oe4))
      · exact stq (fun E => ex_idxS (i := k1) (s := 38) rfl Try.underlying53 (by kernel_rfl) (E.d 2) (E.d 3) hlt1)
      · exact stq (fun E => ex_loadA rfl Try.underlying52 rfl (off := o1 + k1 * 38) (cs := cs1) (by rw [HCL1.out]; kernel_rfl) (E.d 4) (fun j u hu => ((HAT1.out.mod E.m (by intro k h1 h2; rcases h2 with ⟨h0, h2⟩ | h2 <;> (first | omega | (have hb := HBT.out k h1; omega))))).2 j u hu))
      · exact stepq_chain rfl
      · exact stepq_chain rfl
      · exact stepq_chain rfl
      · refine stepq_env rfl rfl rfl fun _ _ _ _ _ _ _ _ _ hd _ _ => ?_
        have h8 := hd ⟨8, .data⟩ (by simp) rfl _ rfl
        exact qe_run rfl (wanted_none rfl) (ex_assign rfl rfl) QE.refl h8
      intro u5_0 hr
      have zu5_0 := hr.size
      have Cx3 := hid (hr.new (S := (fun k => (New w1 wl1 k))))
      have Hx4 := hid ((HAL1.out.mod Cx2.out (fun _ _ h => h) (fun _ _ h => h)).mod hr (by intro k h1 h2; omega) (by intro k h1 h2; rcases h1 with h1 | h1 <;> first | omega | (have hb := HBT.out k h1; omega)))
      clear HAL1
      clear hr
      refine QChain.go fun Z act E => ?_
      refine qc_callF (args := #[.agg cs1.toArray]) rfl (wanted_none rfl) rfl Try.func21 (args1 (E.d 5)) (LCert_c _ _ _ _ (HRD1.out.mod Cx3.out (by intro k h1 h2; have hb := HBT.out k h1; omega)) (by intro k h1; have hb := HBT.out k h1; omega)) ?_
      rintro e u5_1a ⟨cs', rfl, qel, hm⟩
      have zu5_1a := hm.size
      refine ⟨_, rfl, hm.mono (fun _ _ h => h.elim), (fun _ => rfl), ?_⟩
      intro u5_1 hr
      have zu5_1 := hr.size
      have Hx5 := hid ((qel.widen (R' := (fun k => (R2 k) ∨ (New u5_0 u5_1a k))) (fun _ h => h)).mod hr (by intro k h1 h2; rcases h1 with h1 | h1 <;> first | omega | (have hb := HBT.out k h1; omega)))
      have hmr := Mod.after hm hr
      have Hx6 := hid (Hx4.out.mod hmr (by intro k h1 h2; omega) (by intro k h1 h2; rcases h1 with h1 | h1 <;> first | omega | (have hb := HBT.out k h1; omega)))
      clear Hx4
      clear hmr
      have Cx7 := hid (Cx3.out.go hm hr)
      clear Cx3 hm hr Z act E qel HRD1
      refine QChain.go fun Z act E => ?_
      refine qc_buildS (e := 52) (cs := cs') (zc := [.int .i64 0, .int .i64 0, .int .u8 0, .int .u8 0, .int .u8 0, .int .u8 0, .int .u8 0, .int .u8 0, .int .u8 0, .int .u8 0, .int .u8 0, .int .u8 0, .int .u8 0, .int .u8 0, .int .u8 0, .int .u8 0, .int .u8 0, .int .u8 0, .int .u8 0, .int .u8 0, .int .u8 0, .int .u8 0, .int .u8 0, .int .u8 0, .int .u8 0, .int .u8 0, .int .u8 0, .int .u8 0, .int .u8 0, .int .u8 0, .int .u8 0, .int .u8 0, .int .u8 0, .int .u8 0, .int .i64 0, .int .i64 0, .int .i64 0, .slice none 0 0]) (sz := 38) rfl (wanted_none rfl) rfl Try.underlying53 (by kernel_rfl) rfl (by decide) (by decide) (chv (v := .agg cs'.toArray) (E.d 6)) (CeR.len Hx5.out) ?_
      intro u5_2a qrow hm
      have zl5_7 := qrow.lt
      have zu5_2a := hm.size
      refine ⟨hm.mono (fun _ _ h => h.elim), (fun _ => rfl), ?_⟩
      intro u5_2 hr
      have zu5_2 := hr.size
      have Hx8 := hid (qrow.mod hr (by intro h2; omega))
      have hmr := Mod.after hm hr
      have Hx9 := hid (Hx6.out.mod hmr (by intro k h1 h2; omega) (by intro k h1 h2; rcases h1 with h1 | h1 <;> first | omega | (have hb := HBT.out k h1; omega)))
      have Hx10 := hid (Hx5.out.mod hmr (by intro k h1 h2; rcases h1 with h1 | h1 <;> first | omega | (have hb := HBT.out k h1; omega)))
      clear Hx6 Hx5
      clear hmr
      have Cx11 := hid (Cx7.out.go hm hr)
      clear Cx7 hm hr Z act E qrow
      refine QChain.go fun Z act E => ?_
      refine qc_appS (A := CeR) (e := 52) rfl (wanted_none rfl) rfl (.agg #[.int .i64 0, .int .i64 0, .int .u8 0, .int .u8 0, .int .u8 0, .int .u8 0, .int .u8 0, .int .u8 0, .int .u8 0, .int .u8 0, .int .u8 0, .int .u8 0, .int .u8 0, .int .u8 0, .int .u8 0, .int .u8 0, .int .u8 0, .int .u8 0, .int .u8 0, .int .u8 0, .int .u8 0, .int .u8 0, .int .u8 0, .int .u8 0, .int .u8 0, .int .u8 0, .int .u8 0, .int .u8 0, .int .u8 0, .int .u8 0, .int .u8 0, .int .u8 0, .int .u8 0, .int .u8 0, .int .i64 0, .int .i64 0, .int .i64 0, .slice none 0 0]) 96 Try.underlying53 info_Ce (by rfl) (of_decide_eq_true (by kernel_rfl)) (E.d 0) (chv (v := .slice (some ⟨u5_1.heap.size, 0, none⟩) 1 1) (E.d 7)) (Hx9.out) (RdS.single (R := (fun k => (R2 k) ∨ (New u5_0 u5_1a k) ∨ (k = u5_1.heap.size))) Hx8.out (Hx10.out.widen (by intro k h1; rcases h1 with h1 | h1 <;> first | omega | exact h1.elim | exact Or.inl h1 | exact Or.inr (Or.inl h1) | exact Or.inr (Or.inr (h1)))) (by first | exact Or.inr rfl | exact Or.inr (Or.inr rfl) | (right; omega))) (by intro k h1 h2; rcases h1 with h1 | h1 | h1 <;> first | omega | (have hb := HBT.out k h1; omega)) (by rw [HLN1.out]; simp only [List.length_cons, List.length_nil]; omega) (by rw [HLN1.out, maxLen_val]; simp only [List.length_cons, List.length_nil]; omega) ?_
      intro ao8 cap8 u5_3a qacc hm
      have zu5_3a := hm.size
      refine ⟨hm.mono (by intro k hk h; omega), (fun _ => rfl), ?_⟩
      intro u5_3 hr
      have zu5_3 := hr.size
      have Hx12 := hid ((qacc.widen (R' := (fun k => (New w1 wl1 k) ∨ (New u5_2 u5_3a k))) (E' := (fun k => (R2 k) ∨ (New w1 wl1 k) ∨ (New u5_0 u5_1a k) ∨ (k = u5_1.heap.size))) (fun _ h => h) (by intro k h1; rcases h1 with (h1 | h1) | (h1 | h1 | h1) <;> first | omega | exact h1.elim | exact Or.inl h1 | exact Or.inr (Or.inl h1) | exact Or.inr (Or.inr (Or.inl h1)) | exact Or.inr (Or.inr (Or.inr (h1))))).mod hr (by intro k h1 h2; omega) (by intro k h1 h2; rcases h1 with h1 | h1 | h1 | h1 <;> first | omega | (have hb := HBT.out k h1; omega)))
      have hmr := hm.two hr
      have Hx13 := hid (Hx10.out.mod hmr (by intro k h1 h2; rcases h1 with h1 | h1 <;> first | omega | (have hb := HBT.out k h1; omega)))
      have Hx14 := hid (Hx8.out.mod hmr (by intro h2; omega))
      clear Hx10 Hx8
      clear hmr
      have Cx15 := hid (Cx11.out.goM hm hr (fun _ _ h => h))
      clear Cx11 hm hr Z act E qacc Hx9
      refine QChain.nil fun vs hl hzz hrows hne => ?_
      obtain ⟨Z, hYZ, hZb, hV⟩ := hzz
      have f0 := fvi hV hl 0
      have f3 := fvi hV hl 3
      have f6 := fvc hV hl 6
      have f7 := fvc hV hl 7
      have f8 := fvc hV hl 8
      have f9 := fvc hV hl 9
      rw [show vs = [gw vs 0, gw vs 1, gw vs 2, gw vs 3, gw vs 4, gw vs 5, gw vs 6, gw vs 7, gw vs 8, gw vs 9] from (gw_eta hl).trans rfl]
      have ha0 := HA0.out
      subst ha0
      clear HA0 hV hYZ hZb hsz0 hrows hne oe1 oe3 oe4
      simp only [putAll, Act.put, List.setIfInBounds_toArray, List.set_cons_zero, List.set_cons_succ, f0, f3, f6, f7, f8, f9]
      clear hl f0 f3 f6 f7 f8 f9
      have hq := Hx12.out
      rw [HE1.out] at hq
      have HQ1 := Lib.hid hq
      clear hq
      go_wp2
      go_roundw
      case rel => exact ⟨k1 + 1, by go_num, by omega, by omega, by omega, (HQ1.out.widen (by intro b h1; omega) (by intro k h1; rcases h1 with h1 | h1 | h1 | h1 <;> first | omega | exact h1.elim | exact Or.inl h1 | exact Or.inr (h1))), ((HKL1_0.out.mod Cx2.out (fun _ _ h => h)).mod Cx15.out (by intro k h1 h2; have hb := HBT.out k h1; omega)), ((HKL1_1.out.mod Cx2.out (fun h => h)).mod Cx15.out (by intro h2; omega)), ((HKL1_2.out.mod Cx2.out (fun h => h)).mod Cx15.out (by intro h2; omega)), ((HML1.out.trans Cx2.out (fun _ _ h => h.elim)).trans Cx15.out (by intro k h1 h2; omega))⟩
      case measure => simp [intOf]; omega
    · skip
      obtain ⟨bA1, hbA1⟩ : ∃ b : Bool, b = decide (((k1 : Nat) : Int) < (x.l.length : Int)) := ⟨_, rfl⟩
      obtain ⟨bB1, hbB1⟩ : ∃ b : Bool, b = decide (((k1 : Nat) : Int) < 3) := ⟨_, rfl⟩
      go_upto_region 3 with (fail)
      generalize ha0 : Act.mk _ _ = a0
      have oe1 : a0.eval (.tmp 1) = .pointer (some ⟨w.heap.size, 0, none⟩) := by rw [← ha0]; rfl
      have oe4 : a0.eval (.tmp 4) = .int .i64 ((k1 : Nat) : Int) := by rw [← ha0]; rfl
      have hsz0 : a0.tmps.size = 28 := by rw [← ha0]; rfl
      have HA0 := hid ha0
      clear ha0
      refine wp_region_Q0 28 hsz0 [5, 6, 7, 8, 9, 10, 11, 12, 13] [qi (.int .i64 ((k1 : Nat) : Int)), qi (.pointer (some ⟨w.heap.size, 3, none⟩)), qi (.slice ao x.l.length cap), qi (.int .i64 x.l.length), qi (.bool bA1), qi (.bool bA1), qc bA1 (qi (.int .i64 ((k1 : Nat) : Int))), qc bA1 (qi (.bool bB1)), qi (.bool (bA1 && bB1))] ⟨qi_stable, qi_stable, qi_stable, qi_stable, qi_stable, qi_stable, (qc_stable qi_stable), (qc_stable qi_stable), qi_stable, trivial⟩ [] ⟨?_, ?_, ?_, ?_, ?_, ?_, ?_, ?_, ?_, trivial⟩ ?_
      · exact stq (fun E => ex_move rfl (E.v oe4))
      · exact stq (fun E => ex_field rfl Try.underlying55 rfl (by kernel_rfl) (E.v oe1))
      · exact stq (fun E => ex_load1 rfl Try.underlying53 rfl (E.d 1) (Cs.lit1 (HKL1_1.out.mod E.m.old (by intro h2; omega)) rfl))
      · exact stq (fun E => ex_lenS rfl (E.d 2) Try.underlying53)
      · exact stq (fun E => ex_binE rfl (E.d 0) (E.d 3) (guard_ints _ _ _ _ _ _) (run_lss_i _ _ _ Try.underlying3) (congrArg Value.bool hbA1.symm))
      · exact stq (fun E => ex_move rfl (E.d 4))
      · refine stepq_env rfl rfl rfl fun _ _ _ _ _ _ _ hout hsz hd _ _ => ?_
        have h5 := hd ⟨5, .guard⟩ (by simp) rfl _ rfl
        refine qe_guard rfl (b := bA1) ((wanted_of rfl rfl (hsz 10 (by decide)) h5).trans (by simp)) rfl (fun hb l' hl' => ?_)
        refine qe_run rfl ((wanted_of rfl rfl (hsz 10 (by decide)) h5).trans (by first | exact hb | simpa using hb)) (ex_move rfl ((hout 4 (by decide)).trans oe4)) QE.refl ?_
        rw [hl']; rfl
      · refine stepq_env rfl rfl rfl fun _ _ _ _ _ _ _ _ hsz hd _ _ => ?_
        have h5 := hd ⟨5, .guard⟩ (by simp) rfl _ rfl
        have h6 := hd ⟨6, .data⟩ (by simp) rfl _ rfl
        refine qe_guard rfl (b := bA1) ((wanted_of rfl rfl (hsz 10 (by decide)) h5).trans (by simp)) rfl (fun hb l' hl' => ?_)
        refine qe_run rfl ((wanted_of rfl rfl (hsz 10 (by decide)) h5).trans (by first | exact hb | simpa using hb)) (ex_binE rfl (h6.1 hb) rfl (guard_ints _ _ _ _ _ _) (run_lss_i _ _ _ Try.underlying3) (congrArg Value.bool hbB1.symm)) QE.refl ?_
        rw [hl']; rfl
      · exact stq (fun E => ex_pickE rfl (E.d 5) rfl rfl (and_val fun hb => (E.d 7).1 hb))
      intro u3_0 hr
      have zu3_0 := hr.size
      have Cx16 := hid (hr.new (S := (fun _ => False)))
      clear hr
      refine QChain.nil fun vs hl hzz hrows hne => ?_
      obtain ⟨Z, hYZ, hZb, hV⟩ := hzz
      have f0 := fvi hV hl 0
      have f3 := fvi hV hl 3
      have f5 := fvi hV hl 5
      have f8 := fvi hV hl 8
      rw [show vs = [gw vs 0, gw vs 1, gw vs 2, gw vs 3, gw vs 4, gw vs 5, gw vs 6, gw vs 7, gw vs 8] from (gw_eta hl).trans rfl]
      have ha0 := HA0.out
      subst ha0
      clear HA0 hV hYZ hZb hsz0 hrows hne oe1 oe4
      simp only [putAll, Act.put, List.setIfInBounds_toArray, List.set_cons_zero, List.set_cons_succ, f0, f3, f5, f8]
      clear hl f0 f3 f5 f8
      rw [show (bA1 && bB1) = false by rw [hbA1, hbB1, Bool.and_eq_false_iff, decide_eq_false_iff_not, decide_eq_false_iff_not]; omega]
      have HTK1 := hid (show x.l.take k1 = x.l.take 3 from take_two (by omega) (by omega))
      go_upto_region 6 with (fail)
      generalize ha0 : Act.mk _ _ = a0
      have oe1 : a0.eval (.tmp 1) = .pointer (some ⟨w.heap.size, 0, none⟩) := by rw [← ha0]; rfl
      have oe3 : a0.eval (.tmp 3) = .slice aol1 ((x.l.take k1).map cutCe).length capl1 := by rw [← ha0]; rfl
      have hsz0 : a0.tmps.size = 28 := by rw [← ha0]; rfl
      have HA0 := hid ha0
      clear ha0
      refine wp_region_Q1 28 hsz0 [25, 26, 30] (fun k => (k = w.heap.size)) (fun k j => (k = 0 ∧ ((j = w.heap.size)))) (fun _ _ h => h.2) [qi (.slice aol1 ((x.l.take k1).map cutCe).length capl1), qi (.pointer (some ⟨w.heap.size, 3, none⟩)), qv 0] ⟨qi_stable, qi_stable, qv_stable, trivial⟩ [2] ⟨?_, ?_, ?_, trivial⟩ ?_
      · exact stq (fun E => ex_move rfl (E.v oe3))
      · exact stq (fun E => ex_field rfl Try.underlying55 rfl (by kernel_rfl) (E.v oe1))
      · exact stepq_chain rfl
      intro u6_0 hr
      have zu6_0 := hr.size
      have Cx17 := hid (hr.new (S := (fun k => (k = w.heap.size))))
      have Hx18 := hid ((HKL1_1.out.mod Cx16.out (fun h => h)).mod hr (by intro h2; omega))
      clear HKL1_1
      clear hr
      refine QChain.go fun Z act E => ?_
      refine qc_store rfl (wanted_none rfl) rfl Hx18.out (off := 3) (vs := [Value.slice aol1 ((x.l.take k1).map cutCe).length capl1]) (by kernel_rfl) (by intro u hu; simp at hu; subst hu; rfl) (by simp) (E.d 1) (by rw [show act.eval ((.tmp 25)) = _ from (E.d 0)]; rfl) ?_
      intro u6_1a qc0 hm
      have qB1 : Cs u6_1a (w.heap.size) #[.int .i64 x.rp, .int .i64 x.ep, .int .u64 (x.fl : Nat), Value.slice aol1 ((x.l.take k1).map cutCe).length capl1, .int .i64 x.sb, .int .i64 x.mr] 55 := by rw [show lay _ 3 _ = #[.int .i64 x.rp, .int .i64 x.ep, .int .u64 (x.fl : Nat), Value.slice aol1 ((x.l.take k1).map cutCe).length capl1, .int .i64 x.sb, .int .i64 x.mr] from rfl] at qc0; exact qc0
      clear qc0
      have zu6_1a := hm.size
      refine ⟨hm.mono (by intro k hk h; omega), (fun _ => rfl), ?_⟩
      intro u6_1 hr
      have zu6_1 := hr.size
      have Hx19 := hid (qB1.mod hr (by intro h2; omega))
      have Cx20 := hid (Cx17.out.goM hm hr (fun _ _ h => h))
      clear Cx17 hm hr Z act E qB1 Hx18
      refine QChain.nil fun vs hl hzz hrows hne => ?_
      obtain ⟨Z, hYZ, hZb, hV⟩ := hzz
      have f0 := fvi hV hl 0
      rw [show vs = [gw vs 0, gw vs 1, gw vs 2] from (gw_eta hl).trans rfl]
      have ha0 := HA0.out
      subst ha0
      clear HA0 hV hYZ hZb hsz0 hrows hne oe1 oe3
      simp only [putAll, Act.put, List.setIfInBounds_toArray, List.set_cons_zero, List.set_cons_succ, List.set_nil, f0]
      clear hl f0
      go_upto_region 7 with (fail)
      generalize ha0 : Act.mk _ _ = a0
      have oe1 : a0.eval (.tmp 1) = .pointer (some ⟨w.heap.size, 0, none⟩) := by rw [← ha0]; rfl
      have oe2 : a0.eval (.tmp 2) = .pointer (some ⟨w.heap.size + 1, 0, none⟩) := by rw [← ha0]; rfl
      have hsz0 : a0.tmps.size = 28 := by rw [← ha0]; rfl
      have HA0 := hid ha0
      clear ha0
      refine wp_region_Q1 28 hsz0 [27, 29] (fun k => (k = w.heap.size + 1)) (fun k j => (k = 0 ∧ ((j = w.heap.size + 1)))) (fun _ _ h => h.2) [qi (.agg #[.int .i64 x.rp, .int .i64 x.ep, .int .u64 (x.fl : Nat), Value.slice aol1 ((x.l.take k1).map cutCe).length capl1, .int .i64 x.sb, .int .i64 x.mr]), qv 0] ⟨qi_stable, qv_stable, trivial⟩ [1] ⟨?_, ?_, trivial⟩ ?_
      · exact stq (fun E => ex_loadA rfl Try.underlying55 rfl (off := 0) (cs := [.int .i64 x.rp, .int .i64 x.ep, .int .u64 (x.fl : Nat), Value.slice aol1 ((x.l.take k1).map cutCe).length capl1, .int .i64 x.sb, .int .i64 x.mr]) (by kernel_rfl) (E.v oe1) (Cs.whole (Hx19.out.mod E.m (by intro h2; omega))))
      · exact stepq_chain rfl
      intro u7_0 hr
      have zu7_0 := hr.size
      have Cx21 := hid (hr.new (S := (fun k => (k = w.heap.size + 1))))
      have Hx22 := hid (((HKL1_2.out.mod Cx16.out (fun h => h)).mod Cx20.out (by intro h2; omega)).mod hr (by intro h2; omega))
      clear HKL1_2
      clear hr
      refine QChain.go fun Z act E => ?_
      refine qc_store rfl (wanted_none rfl) rfl Hx22.out (off := 0) (vs := [.int .i64 x.rp, .int .i64 x.ep, .int .u64 (x.fl : Nat), Value.slice aol1 ((x.l.take k1).map cutCe).length capl1, .int .i64 x.sb, .int .i64 x.mr]) (by kernel_rfl) (by intro u hu; simp at hu; rcases hu with rfl | rfl | rfl | rfl | rfl | rfl <;> rfl) (by simp) (E.v oe2) (by rw [show act.eval ((.tmp 27)) = _ from (E.d 0)]; rfl) ?_
      intro u7_1a qc0 hm
      have qB2 : Cs u7_1a (w.heap.size + 1) #[.int .i64 x.rp, .int .i64 x.ep, .int .u64 (x.fl : Nat), Value.slice aol1 ((x.l.take k1).map cutCe).length capl1, .int .i64 x.sb, .int .i64 x.mr] 55 := by rw [show lay _ 0 _ = #[.int .i64 x.rp, .int .i64 x.ep, .int .u64 (x.fl : Nat), Value.slice aol1 ((x.l.take k1).map cutCe).length capl1, .int .i64 x.sb, .int .i64 x.mr] from rfl] at qc0; exact qc0
      clear qc0
      have zu7_1a := hm.size
      refine ⟨hm.mono (by intro k hk h; omega), (fun _ => rfl), ?_⟩
      intro u7_1 hr
      have zu7_1 := hr.size
      have Hx23 := hid (qB2.mod hr (by intro h2; omega))
      have Cx24 := hid (Cx21.out.goM hm hr (fun _ _ h => h))
      clear Cx21 hm hr Z act E qB2 Hx22
      refine QChain.nil fun vs hl hzz hrows hne => ?_
      obtain ⟨Z, hYZ, hZb, hV⟩ := hzz
      rw [show vs = [gw vs 0, gw vs 1] from (gw_eta hl).trans rfl]
      have ha0 := HA0.out
      subst ha0
      clear HA0 hV hYZ hZb hsz0 hrows hne oe1 oe2
      simp only [putAll, Act.put, List.setIfInBounds_toArray, List.set_cons_zero, List.set_cons_succ, List.set_nil]
      clear hl
      go_wp2
      have hq := (((HAL1.out.mod Cx16.out (fun _ _ h => h) (fun _ _ h => h)).mod Cx20.out (by intro k h1 h2; omega) (by intro k h1 h2; rcases h1 with h1 | h1 <;> first | omega | (have hb := HBT.out k h1; omega))).mod Cx24.out (by intro k h1 h2; omega) (by intro k h1 h2; rcases h1 with h1 | h1 <;> first | omega | (have hb := HBT.out k h1; omega)))
      refine bodyPost_ret (results_cellA rfl _ _ (w.heap.size + 1) ([.int .i64 x.rp, .int .i64 x.ep, .int .u64 (x.fl : Nat), Value.slice aol1 ((x.l.take k1).map cutCe).length capl1, .int .i64 x.sb, .int .i64 x.mr]) rfl (fun k u hu => by rw [Hx23.out.cell]; simpa using hu) Try.underlying55 rfl (by kernel_rfl)) rfl ⟨_, rfl, ⟨_, rfl, HOK.out, ?_⟩, (((HML1.out.trans Cx16.out (fun _ _ h => h.elim)).trans Cx20.out (by intro k h1 h2; omega)).trans Cx24.out (by intro k h1 h2; omega))⟩
      rw [show (cutPm x).l = (x.l.take k1).map cutCe from congrArg (List.map cutCe) HTK1.out.symm]
      refine hq.rd.widen ?_
      intro k h
      (try dsimp only at h ⊢)
      rcases h with h | h | h
      · right; omega
      · exact Or.inl h
      · right; omega
end Go.Proofs.Ytknpapcfhnhheaa

/- Batches that are cut. -/
set_option maxRecDepth 100000
set_option linter.unusedVariables false
namespace Go.Proofs.Ytknpapcfhnhheaa
open Go Go.RowKit Go.Gv


def cutOp (x : Op) : Op := { x with pl := x.pl.take 260 }
def cutTb (x : Tb) : Tb := { x with l := x.l.take 5 }
def cutBa (x : Ba) : Ba := { x with ps := (x.ps.take 4).map cutPm, os := (x.os.take 4).map cutOp, ts := (x.ts.take 4).map cutTb }
theorem RdR_len {R : Nat → Prop} {N : Nat} {w : World} {v : Value} {bs : List Int} (h : RdR R N w v bs) : RdR R bs.length w v bs := ⟨h.1, h.2.1, Nat.le_refl _⟩
theorem op_len (x : Op) (v : Value) (h : x.nc.length = 32) : (x.cells v).length = 34 := by simp [Op.cells, h]
theorem lay_pl (x y : Op) (u v : Value) (h : y.ix = x.ix ∧ y.nc = x.nc) : lay (x.cells u).toArray 1 [v] = (y.cells v).toArray := by
  obtain ⟨h1, h2⟩ := h
  simp [lay, Op.cells, h1, h2]
theorem lay_tl (x y : Tb) (u v : Value) (h : y.ix = x.ix) : lay (x.cells u).toArray 1 [v] = (y.cells v).toArray := by
  simp [lay, Tb.cells, h]
set_option maxHeartbeats 8000000 in
theorem LBatch_c : CutR BaR 25 cutBa := by
  intro R2 x cs w hx hB2
  obtain ⟨v_ps, v_os, v_ts, rfl, hok, hs0, hs1, hs2⟩ := hx
  obtain ⟨ao_ps, cap_ps, rfl⟩ := hs0.shape
  obtain ⟨ao_os, cap_os, rfl⟩ := hs1.shape
  obtain ⟨ao_ts, cap_ts, rfl⟩ := hs2.shape
  have HS0 := Lib.hid hs0
  have HS1 := Lib.hid hs1
  have HS2 := Lib.hid hs2
  have HBT := Lib.hid hB2
  have HOK := Lib.hid hok
  clear hs0 hs1 hs2 hB2 hok
  go_enter Try.func25, Try.ntmps25
  go_upto_region 1 with (fail)
  obtain ⟨w1, hw1⟩ : ∃ zz, zz = ((w.alloc (.cells (x.cells (.slice ao_ps x.ps.length cap_ps) (.slice ao_os x.os.length cap_os) (.slice ao_ts x.ts.length cap_ts) : List Value).toArray 60)).alloc (.cells #[.int .i64 0, .int .u64 0, .slice none 0 0, .slice none 0 0, .slice none 0 0] 60)) := ⟨_, rfl⟩
  change Code.wp _ _ _ _ ((w.alloc (.cells (x.cells (.slice ao_ps x.ps.length cap_ps) (.slice ao_os x.os.length cap_os) (.slice ao_ts x.ts.length cap_ts) : List Value).toArray 60)).alloc (.cells #[.int .i64 0, .int .u64 0, .slice none 0 0, .slice none 0 0, .slice none 0 0] 60))
  rw [← hw1]
  have HB1 := hid (show Cs w1 (w.heap.size) (x.cells (.slice ao_ps x.ps.length cap_ps) (.slice ao_os x.os.length cap_os) (.slice ao_ts x.ts.length cap_ts) : List Value).toArray 60 by rw [hw1]; exact (Cs.new _ _ _).alloc _)
  have HB2 := hid (show Cs w1 (w.heap.size + 1) #[.int .i64 0, .int .u64 0, .slice none 0 0, .slice none 0 0, .slice none 0 0] 60 by rw [hw1]; exact Cs_newN _ _ _ (by simp))
  have hm : Mod (fun _ => False) w w1 := by rw [hw1]; exact ((Mod.refl _ _).alloc _).alloc _
  have HM0 := hid (show Mod (fun _ => False) w w1 from hm.mono (fun _ _ h => h.elim))
  have hs1 : w1.heap.size = w.heap.size + 2 := by rw [hw1]; simp
  have Hx1 := hid (HS0.out.mod hm (fun _ _ h => h))
  clear HS0
  have Hx2 := hid (HS1.out.mod hm (fun _ _ h => h))
  clear HS1
  have Hx3 := hid (HS2.out.mod hm (fun _ _ h => h))
  clear HS2
  clear hw1 hm
  go_wp2
  go_loopw [3, 4] (fun ta ti wr => ∃ k : Nat, ti = .int .i64 (k : Int) ∧ k ≤ x.ps.length ∧ k ≤ 4 ∧ w1.heap.size ≤ wr.heap.size ∧ OwS PmR 55 (fun b => w1.heap.size ≤ b ∧ b < wr.heap.size) (fun b => R2 b ∨ (w1.heap.size ≤ b ∧ b < wr.heap.size)) wr ta ((x.ps.take k).map cutPm) ∧ RdS PmR R2 wr (.slice ao_ps x.ps.length cap_ps) x.ps ∧ RdS OpR R2 wr (.slice ao_os x.os.length cap_os) x.os ∧ RdS TbR R2 wr (.slice ao_ts x.ts.length cap_ts) x.ts ∧ Cs wr (w.heap.size) (x.cells (.slice ao_ps x.ps.length cap_ps) (.slice ao_os x.os.length cap_os) (.slice ao_ts x.ts.length cap_ts) : List Value).toArray 60 ∧ Cs wr (w.heap.size + 1) #[.int .i64 0, .int .u64 0, .slice none 0 0, .slice none 0 0, .slice none 0 0] 60 ∧ Mod (fun _ => False) w wr) (fun _ ti _ => x.ps.length - (intOf ti).toNat)
  case atStart => exact ⟨0, rfl, Nat.zero_le _, Nat.zero_le _, Nat.le_refl _, OwS.nil _ _ _ _ _, Hx1.out, Hx2.out, Hx3.out, HB1.out, HB2.out, HM0.out⟩
  case round =>
    obtain ⟨k1, rfl, hk, hkN, hz, ha, hk_0, hk_1, hk_2, hk_3, hk_4, hm⟩ := hrel
    obtain ⟨wl1, rfl⟩ : ∃ x, x = wr := ⟨_, rfl⟩
    obtain ⟨aol1, capl1, rfl⟩ := ha.shape
    have HAL1 := Lib.hid ha
    have HKL1_0 := Lib.hid hk_0
    have HKL1_1 := Lib.hid hk_1
    have HKL1_2 := Lib.hid hk_2
    have HKL1_3 := Lib.hid hk_3
    have HKL1_4 := Lib.hid hk_4
    have HML1 := Lib.hid hm
    clear ha hm hk_0 hk_1 hk_2 hk_3 hk_4 Hx1 Hx2 Hx3 HB1 HB2 HM0
    by_cases hlt1 : k1 < x.ps.length ∧ k1 < 4
    · obtain ⟨hlt1, hlN1⟩ := hlt1
      go_upto_region 3 with (fail)
      generalize ha0 : Act.mk _ _ = a0
      have oe1 : a0.eval (.tmp 1) = .pointer (some ⟨w.heap.size, 0, none⟩) := by rw [← ha0]; rfl
      have oe4 : a0.eval (.tmp 4) = .int .i64 ((k1 : Nat) : Int) := by rw [← ha0]; rfl
      have hsz0 : a0.tmps.size = 86 := by rw [← ha0]; rfl
      have HA0 := hid ha0
      clear ha0
      refine wp_region_Q0 86 hsz0 [11, 12, 13, 14, 15, 16, 17, 18, 19] [qi (.int .i64 ((k1 : Nat) : Int)), qi (.pointer (some ⟨w.heap.size, 2, none⟩)), qi (.slice ao_ps x.ps.length cap_ps), qi (.int .i64 x.ps.length), qi (.bool true), qi (.bool true), qi (.int .i64 ((k1 : Nat) : Int)), qi (.bool true), qi (.bool true)] ⟨qi_stable, qi_stable, qi_stable, qi_stable, qi_stable, qi_stable, qi_stable, qi_stable, qi_stable, trivial⟩ [] ⟨?_, ?_, ?_, ?_, ?_, ?_, ?_, ?_, ?_, trivial⟩ ?_
      · exact stq (fun E => ex_move rfl (E.v oe4))
      · exact stq (fun E => ex_field rfl Try.underlying60 rfl (by kernel_rfl) (E.v oe1))
      · exact stq (fun E => ex_load1 rfl Try.underlying56 rfl (E.d 1) (Cs.lit1 (HKL1_3.out.mod E.m.old (by intro h2; omega)) rfl))
      · exact stq (fun E => ex_lenS rfl (E.d 2) Try.underlying56)
      · exact stq (fun E => ex_binE rfl (E.d 0) (E.d 3) (guard_ints _ _ _ _ _ _) (run_lss_i _ _ _ Try.underlying3) (congrArg Value.bool (decide_eq_true (by omega))))
      · exact stq (fun E => ex_move rfl (E.d 4))
      · refine stepq_env rfl rfl rfl fun _ _ _ _ _ _ _ hout hsz hd _ _ => ?_
        have h5 := hd ⟨5, .guard⟩ (by simp) rfl _ rfl
        refine qe_run rfl ((wanted_of rfl rfl (hsz 16 (by decide)) h5).trans rfl) (ex_move rfl ((hout 4 (by decide)).trans oe4)) QE.refl ?_
        rfl
      · refine stepq_env rfl rfl rfl fun _ _ _ _ _ _ _ _ hsz hd _ _ => ?_
        have h5 := hd ⟨5, .guard⟩ (by simp) rfl _ rfl
        have h6 := hd ⟨6, .data⟩ (by simp) rfl _ rfl
        refine qe_run rfl ((wanted_of rfl rfl (hsz 16 (by decide)) h5).trans rfl) (ex_binE rfl h6 rfl (guard_ints _ _ _ _ _ _) (run_lss_i _ _ _ Try.underlying3) (congrArg Value.bool (decide_eq_true (by omega)))) QE.refl ?_
        rfl
      · exact stq (fun E => ex_pick rfl (E.d 5) (E.d 7) rfl)
      intro u3_0 hr
      have zu3_0 := hr.size
      have Cx4 := hid (hr.new (S := (fun _ => False)))
      clear hr
      refine QChain.nil fun vs hl hzz hrows hne => ?_
      obtain ⟨Z, hYZ, hZb, hV⟩ := hzz
      have f0 := fvi hV hl 0
      have f3 := fvi hV hl 3
      have f5 := fvi hV hl 5
      have f6 := fvi hV hl 6
      have f8 := fvi hV hl 8
      rw [show vs = [gw vs 0, gw vs 1, gw vs 2, gw vs 3, gw vs 4, gw vs 5, gw vs 6, gw vs 7, gw vs 8] from (gw_eta hl).trans rfl]
      have ha0 := HA0.out
      subst ha0
      clear HA0 hV hYZ hZb hsz0 hrows hne oe1 oe4
      simp only [putAll, Act.put, List.setIfInBounds_toArray, List.set_cons_zero, List.set_cons_succ, f0, f3, f5, f6, f8]
      clear hl f0 f3 f5 f6 f8
      have hat := (HKL1_0.out.mod Cx4.out (fun _ _ h => h)).at hlt1
      obtain ⟨g1, o1, cs1, eao, hrg, hrd, hcs⟩ := hat
      subst eao
      have hcl : cs1.length = 6 := PmR.len hrd
      have HCL1 := Lib.hid hcl
      have HAT1 := hid (show CellsAt R2 u3_0 g1 (o1 + k1 * 6) cs1 from ⟨hrg, hcs⟩)
      have HRD1 := Lib.hid hrd
      have HOC1 := hid (PmR.one hrd)
      clear hcl hcs hrd hrg
      have HE1 : Hid (((x.ps.take k1).map cutPm) ++ [cutPm x.ps[k1]] = (x.ps.take (k1 + 1)).map cutPm) := hid (by rw [List.take_succ_eq_append_getElem hlt1, List.map_append]; rfl)
      have HLN1 : Hid (((x.ps.take k1).map cutPm).length = k1) := hid (by rw [List.length_map, List.length_take]; omega)
      go_upto_region 5 with (fail)
      generalize ha0 : Act.mk _ _ = a0
      have oe1 : a0.eval (.tmp 1) = .pointer (some ⟨w.heap.size, 0, none⟩) := by rw [← ha0]; rfl
      have oe3 : a0.eval (.tmp 3) = .slice aol1 ((x.ps.take k1).map cutPm).length capl1 := by rw [← ha0]; rfl
      have oe4 : a0.eval (.tmp 4) = .int .i64 ((k1 : Nat) : Int) := by rw [← ha0]; rfl
      have hsz0 : a0.tmps.size = 86 := by rw [← ha0]; rfl
      have HA0 := hid ha0
      clear ha0
      refine wp_region_Q1 86 hsz0 [22, 23, 24, 25, 26, 27, 28, 29, 30, 3] (fun k => (New w1 wl1 k)) (fun k j => (k = 2 ∧ ((New w1 wl1 j)))) (fun _ _ h => h.2) [qi (.slice aol1 ((x.ps.take k1).map cutPm).length capl1), qi (.pointer (some ⟨w.heap.size, 2, none⟩)), qi (.slice (some ⟨g1, o1, none⟩) x.ps.length cap_ps), qi (.int .i64 ((k1 : Nat) : Int)), qi (.pointer (some ⟨g1, o1 + k1 * 6, none⟩)), qi (.agg cs1.toArray), qv 0, qv 1, qv 2, qv 2] ⟨qi_stable, qi_stable, qi_stable, qi_stable, qi_stable, qi_stable, qv_stable, qv_stable, qv_stable, qv_stable, trivial⟩ [6, 7, 8] ⟨?_, ?_, ?_, ?_, ?_, ?_, ?_, ?_, ?_, ?_, trivial⟩ ?_
      · exact stq (fun E => ex_move rfl ((E.pre 9 3 rfl (by kernel_rfl)).trans oe3))
      · exact stq (fun E => ex_field rfl Try.underlying60 rfl (by kernel_rfl) (E.v oe1))
      · exact stq (fun E => ex_load1 rfl Try.underlying56 rfl (E.d 1) (Cs.lit1 ((HKL1_3.out.mod Cx4.out (fun h => h)).mod E.m (by intro h2; omega)) rfl))
      · exact stq (fun E => ex_move rfl (E.v oe4))
      · exact stq (fun E => ex_idxS (i := k1) (s := 6) rfl Try.underlying56 (by kernel_rfl) (E.d 2) (E.d 3) hlt1)
      · exact stq (fun E => ex_loadA rfl Try.underlying55 rfl (off := o1 + k1 * 6) (cs := cs1) (by rw [HCL1.out]; kernel_rfl) (E.d 4) (fun j u hu => ((HAT1.out.mod E.m (by intro k h1 h2; rcases h2 with ⟨h0, h2⟩ | h2 <;> (first | omega | (have hb := HBT.out k h1; omega))))).2 j u hu))
      · exact stepq_chain rfl
      · exact stepq_chain rfl
      · exact stepq_chain rfl
      · refine stepq_env rfl rfl rfl fun _ _ _ _ _ _ _ _ _ hd _ _ => ?_
        have h8 := hd ⟨8, .data⟩ (by simp) rfl _ rfl
        exact qe_run rfl (wanted_none rfl) (ex_assign rfl rfl) QE.refl h8
      intro u5_0 hr
      have zu5_0 := hr.size
      have Cx5 := hid (hr.new (S := (fun k => (New w1 wl1 k))))
      have Hx6 := hid ((HAL1.out.mod Cx4.out (fun _ _ h => h) (fun _ _ h => h)).mod hr (by intro k h1 h2; omega) (by intro k h1 h2; rcases h1 with h1 | h1 <;> first | omega | (have hb := HBT.out k h1; omega)))
      clear HAL1
      clear hr
      refine QChain.go fun Z act E => ?_
      refine qc_callF (args := #[.agg cs1.toArray]) rfl (wanted_none rfl) rfl Try.func23 (args1 (E.d 5)) (LPromise_c _ _ _ _ (HRD1.out.mod Cx5.out (by intro k h1 h2; have hb := HBT.out k h1; omega)) (by intro k h1; have hb := HBT.out k h1; omega)) ?_
      rintro e u5_1a ⟨cs', rfl, qel, hm⟩
      have zu5_1a := hm.size
      refine ⟨_, rfl, hm.mono (fun _ _ h => h.elim), (fun _ => rfl), ?_⟩
      intro u5_1 hr
      have zu5_1 := hr.size
      have Hx7 := hid ((qel.widen (R' := (fun k => (R2 k) ∨ (New u5_0 u5_1a k))) (fun _ h => h)).mod hr (by intro k h1 h2; rcases h1 with h1 | h1 <;> first | omega | (have hb := HBT.out k h1; omega)))
      have hmr := Mod.after hm hr
      have Hx8 := hid (Hx6.out.mod hmr (by intro k h1 h2; omega) (by intro k h1 h2; rcases h1 with h1 | h1 <;> first | omega | (have hb := HBT.out k h1; omega)))
      clear Hx6
      clear hmr
      have Cx9 := hid (Cx5.out.go hm hr)
      clear Cx5 hm hr Z act E qel HRD1
      refine QChain.go fun Z act E => ?_
      refine qc_buildS (e := 55) (cs := cs') (zc := [.int .i64 0, .int .i64 0, .int .u64 0, .slice none 0 0, .int .i64 0, .int .i64 0]) (sz := 6) rfl (wanted_none rfl) rfl Try.underlying56 (by kernel_rfl) rfl (by decide) (by decide) (chv (v := .agg cs'.toArray) (E.d 6)) (PmR.len Hx7.out) ?_
      intro u5_2a qrow hm
      have zl5_7 := qrow.lt
      have zu5_2a := hm.size
      refine ⟨hm.mono (fun _ _ h => h.elim), (fun _ => rfl), ?_⟩
      intro u5_2 hr
      have zu5_2 := hr.size
      have Hx10 := hid (qrow.mod hr (by intro h2; omega))
      have hmr := Mod.after hm hr
      have Hx11 := hid (Hx8.out.mod hmr (by intro k h1 h2; omega) (by intro k h1 h2; rcases h1 with h1 | h1 <;> first | omega | (have hb := HBT.out k h1; omega)))
      have Hx12 := hid (Hx7.out.mod hmr (by intro k h1 h2; rcases h1 with h1 | h1 <;> first | omega | (have hb := HBT.out k h1; omega)))
      clear Hx8 Hx7
      clear hmr
      have Cx13 := hid (Cx9.out.go hm hr)
      clear Cx9 hm hr Z act E qrow
      refine QChain.go fun Z act E => ?_
      refine qc_appS (A := PmR) (e := 55) rfl (wanted_none rfl) rfl (.agg #[.int .i64 0, .int .i64 0, .int .u64 0, .slice none 0 0, .int .i64 0, .int .i64 0]) 64 Try.underlying56 info_Pm (by rfl) (of_decide_eq_true (by kernel_rfl)) (E.d 0) (chv (v := .slice (some ⟨u5_1.heap.size, 0, none⟩) 1 1) (E.d 7)) (Hx11.out) (RdS.single (R := (fun k => (R2 k) ∨ (New u5_0 u5_1a k) ∨ (k = u5_1.heap.size))) Hx10.out (Hx12.out.widen (by intro k h1; rcases h1 with h1 | h1 <;> first | omega | exact h1.elim | exact Or.inl h1 | exact Or.inr (Or.inl h1) | exact Or.inr (Or.inr (h1)))) (by first | exact Or.inr rfl | exact Or.inr (Or.inr rfl) | (right; omega))) (by intro k h1 h2; rcases h1 with h1 | h1 | h1 <;> first | omega | (have hb := HBT.out k h1; omega)) (by rw [HLN1.out]; simp only [List.length_cons, List.length_nil]; omega) (by rw [HLN1.out, maxLen_val]; simp only [List.length_cons, List.length_nil]; omega) ?_
      intro ao8 cap8 u5_3a qacc1 hm
      have zu5_3a := hm.size
      refine ⟨hm.mono (by intro k hk h; omega), (fun _ => rfl), ?_⟩
      intro u5_3 hr
      have zu5_3 := hr.size
      have Hx14 := hid ((qacc1.widen (R' := (fun k => (New w1 wl1 k) ∨ (New u5_2 u5_3a k))) (E' := (fun k => (R2 k) ∨ (New w1 wl1 k) ∨ (New u5_0 u5_1a k) ∨ (k = u5_1.heap.size))) (fun _ h => h) (by intro k h1; rcases h1 with (h1 | h1) | (h1 | h1 | h1) <;> first | omega | exact h1.elim | exact Or.inl h1 | exact Or.inr (Or.inl h1) | exact Or.inr (Or.inr (Or.inl h1)) | exact Or.inr (Or.inr (Or.inr (h1))))).mod hr (by intro k h1 h2; omega) (by intro k h1 h2; rcases h1 with h1 | h1 | h1 | h1 <;> first | omega | (have hb := HBT.out k h1; omega)))
      have hmr := hm.two hr
      have Hx15 := hid (Hx12.out.mod hmr (by intro k h1 h2; rcases h1 with h1 | h1 <;> first | omega | (have hb := HBT.out k h1; omega)))
      have Hx16 := hid (Hx10.out.mod hmr (by intro h2; omega))
      clear Hx12 Hx10
      clear hmr
      have Cx17 := hid (Cx13.out.goM hm hr (fun _ _ h => h))
      clear Cx13 hm hr Z act E qacc1 Hx11
      refine QChain.nil fun vs hl hzz hrows hne => ?_
      obtain ⟨Z, hYZ, hZb, hV⟩ := hzz
      have f0 := fvi hV hl 0
      have f3 := fvi hV hl 3
      have f6 := fvc hV hl 6
      have f7 := fvc hV hl 7
      have f8 := fvc hV hl 8
      have f9 := fvc hV hl 9
      rw [show vs = [gw vs 0, gw vs 1, gw vs 2, gw vs 3, gw vs 4, gw vs 5, gw vs 6, gw vs 7, gw vs 8, gw vs 9] from (gw_eta hl).trans rfl]
      have ha0 := HA0.out
      subst ha0
      clear HA0 hV hYZ hZb hsz0 hrows hne oe1 oe3 oe4
      simp only [putAll, Act.put, List.setIfInBounds_toArray, List.set_cons_zero, List.set_cons_succ, f0, f3, f6, f7, f8, f9]
      clear hl f0 f3 f6 f7 f8 f9
      have hq := Hx14.out
      rw [HE1.out] at hq
      have HQ1 := Lib.hid hq
      clear hq
      go_wp2
      go_roundw
      case rel => exact ⟨k1 + 1, by go_num, by omega, by omega, by omega, (HQ1.out.widen (by intro b h1; omega) (by intro k h1; rcases h1 with h1 | h1 | h1 | h1 <;> first | omega | exact h1.elim | exact Or.inl h1 | exact Or.inr (h1))), ((HKL1_0.out.mod Cx4.out (fun _ _ h => h)).mod Cx17.out (by intro k h1 h2; have hb := HBT.out k h1; omega)), ((HKL1_1.out.mod Cx4.out (fun _ _ h => h)).mod Cx17.out (by intro k h1 h2; have hb := HBT.out k h1; omega)), ((HKL1_2.out.mod Cx4.out (fun _ _ h => h)).mod Cx17.out (by intro k h1 h2; have hb := HBT.out k h1; omega)), ((HKL1_3.out.mod Cx4.out (fun h => h)).mod Cx17.out (by intro h2; omega)), ((HKL1_4.out.mod Cx4.out (fun h => h)).mod Cx17.out (by intro h2; omega)), ((HML1.out.trans Cx4.out (fun _ _ h => h.elim)).trans Cx17.out (by intro k h1 h2; omega))⟩
      case measure => simp [intOf]; omega
    · skip
      obtain ⟨bA1, hbA1⟩ : ∃ b : Bool, b = decide (((k1 : Nat) : Int) < (x.ps.length : Int)) := ⟨_, rfl⟩
      obtain ⟨bB1, hbB1⟩ : ∃ b : Bool, b = decide (((k1 : Nat) : Int) < 4) := ⟨_, rfl⟩
      go_upto_region 3 with (fail)
      generalize ha0 : Act.mk _ _ = a0
      have oe1 : a0.eval (.tmp 1) = .pointer (some ⟨w.heap.size, 0, none⟩) := by rw [← ha0]; rfl
      have oe4 : a0.eval (.tmp 4) = .int .i64 ((k1 : Nat) : Int) := by rw [← ha0]; rfl
      have hsz0 : a0.tmps.size = 86 := by rw [← ha0]; rfl
      have HA0 := hid ha0
      clear ha0
      refine wp_region_Q0 86 hsz0 [11, 12, 13, 14, 15, 16, 17, 18, 19] [qi (.int .i64 ((k1 : Nat) : Int)), qi (.pointer (some ⟨w.heap.size, 2, none⟩)), qi (.slice ao_ps x.ps.length cap_ps), qi (.int .i64 x.ps.length), qi (.bool bA1), qi (.bool bA1), qc bA1 (qi (.int .i64 ((k1 : Nat) : Int))), qc bA1 (qi (.bool bB1)), qi (.bool (bA1 && bB1))] ⟨qi_stable, qi_stable, qi_stable, qi_stable, qi_stable, qi_stable, (qc_stable qi_stable), (qc_stable qi_stable), qi_stable, trivial⟩ [] ⟨?_, ?_, ?_, ?_, ?_, ?_, ?_, ?_, ?_, trivial⟩ ?_
      · exact stq (fun E => ex_move rfl (E.v oe4))
      · exact stq (fun E => ex_field rfl Try.underlying60 rfl (by kernel_rfl) (E.v oe1))
      · exact stq (fun E => ex_load1 rfl Try.underlying56 rfl (E.d 1) (Cs.lit1 (HKL1_3.out.mod E.m.old (by intro h2; omega)) rfl))
      · exact stq (fun E => ex_lenS rfl (E.d 2) Try.underlying56)
      · exact stq (fun E => ex_binE rfl (E.d 0) (E.d 3) (guard_ints _ _ _ _ _ _) (run_lss_i _ _ _ Try.underlying3) (congrArg Value.bool hbA1.symm))
      · exact stq (fun E => ex_move rfl (E.d 4))
      · refine stepq_env rfl rfl rfl fun _ _ _ _ _ _ _ hout hsz hd _ _ => ?_
        have h5 := hd ⟨5, .guard⟩ (by simp) rfl _ rfl
        refine qe_guard rfl (b := bA1) ((wanted_of rfl rfl (hsz 16 (by decide)) h5).trans (by simp)) rfl (fun hb l' hl' => ?_)
        refine qe_run rfl ((wanted_of rfl rfl (hsz 16 (by decide)) h5).trans (by first | exact hb | simpa using hb)) (ex_move rfl ((hout 4 (by decide)).trans oe4)) QE.refl ?_
        rw [hl']; rfl
      · refine stepq_env rfl rfl rfl fun _ _ _ _ _ _ _ _ hsz hd _ _ => ?_
        have h5 := hd ⟨5, .guard⟩ (by simp) rfl _ rfl
        have h6 := hd ⟨6, .data⟩ (by simp) rfl _ rfl
        refine qe_guard rfl (b := bA1) ((wanted_of rfl rfl (hsz 16 (by decide)) h5).trans (by simp)) rfl (fun hb l' hl' => ?_)
        refine qe_run rfl ((wanted_of rfl rfl (hsz 16 (by decide)) h5).trans (by first | exact hb | simpa using hb)) (ex_binE rfl (h6.1 hb) rfl (guard_ints _ _ _ _ _ _) (run_lss_i _ _ _ Try.underlying3) (congrArg Value.bool hbB1.symm)) QE.refl ?_
        rw [hl']; rfl
      · exact stq (fun E => ex_pickE rfl (E.d 5) rfl rfl (and_val fun hb => (E.d 7).1 hb))
      intro u3_0 hr
      have zu3_0 := hr.size
      have Cx18 := hid (hr.new (S := (fun _ => False)))
      clear hr
      refine QChain.nil fun vs hl hzz hrows hne => ?_
      obtain ⟨Z, hYZ, hZb, hV⟩ := hzz
      have f0 := fvi hV hl 0
      have f3 := fvi hV hl 3
      have f5 := fvi hV hl 5
      have f8 := fvi hV hl 8
      rw [show vs = [gw vs 0, gw vs 1, gw vs 2, gw vs 3, gw vs 4, gw vs 5, gw vs 6, gw vs 7, gw vs 8] from (gw_eta hl).trans rfl]
      have ha0 := HA0.out
      subst ha0
      clear HA0 hV hYZ hZb hsz0 hrows hne oe1 oe4
      simp only [putAll, Act.put, List.setIfInBounds_toArray, List.set_cons_zero, List.set_cons_succ, f0, f3, f5, f8]
      clear hl f0 f3 f5 f8
      rw [show (bA1 && bB1) = false by rw [hbA1, hbB1, Bool.and_eq_false_iff, decide_eq_false_iff_not, decide_eq_false_iff_not]; omega]
      have HTK1 := hid (show x.ps.take k1 = x.ps.take 4 from take_two (by omega) (by omega))
      go_wp2
      go_loopw [5, 6] (fun ta ti wr => ∃ k : Nat, ti = .int .i64 (k : Int) ∧ k ≤ x.os.length ∧ k ≤ 4 ∧ u3_0.heap.size ≤ wr.heap.size ∧ OwS OpR 87 (fun b => u3_0.heap.size ≤ b ∧ b < wr.heap.size) (fun b => R2 b ∨ (u3_0.heap.size ≤ b ∧ b < wr.heap.size)) wr ta ((x.os.take k).map cutOp) ∧ RdS PmR R2 wr (.slice ao_ps x.ps.length cap_ps) x.ps ∧ RdS OpR R2 wr (.slice ao_os x.os.length cap_os) x.os ∧ RdS TbR R2 wr (.slice ao_ts x.ts.length cap_ts) x.ts ∧ Cs wr (w.heap.size) (x.cells (.slice ao_ps x.ps.length cap_ps) (.slice ao_os x.os.length cap_os) (.slice ao_ts x.ts.length cap_ts) : List Value).toArray 60 ∧ Cs wr (w.heap.size + 1) #[.int .i64 0, .int .u64 0, .slice none 0 0, .slice none 0 0, .slice none 0 0] 60 ∧ OwS PmR 55 (fun b => w1.heap.size ≤ b ∧ b < wl1.heap.size) (fun b => R2 b ∨ (w1.heap.size ≤ b ∧ b < wl1.heap.size)) wr (.slice aol1 ((x.ps.take k1).map cutPm).length capl1) ((x.ps.take k1).map cutPm) ∧ Mod (fun _ => False) w wr) (fun _ ti _ => x.os.length - (intOf ti).toNat)
      case atStart => exact ⟨0, rfl, Nat.zero_le _, Nat.zero_le _, Nat.le_refl _, OwS.nil _ _ _ _ _, (HKL1_0.out.mod Cx18.out (fun _ _ h => h)), (HKL1_1.out.mod Cx18.out (fun _ _ h => h)), (HKL1_2.out.mod Cx18.out (fun _ _ h => h)), (HKL1_3.out.mod Cx18.out (fun h => h)), (HKL1_4.out.mod Cx18.out (fun h => h)), (HAL1.out.mod Cx18.out (fun _ _ h => h) (fun _ _ h => h)), (HML1.out.trans Cx18.out (fun _ _ h => h.elim))⟩
      case round =>
        obtain ⟨k2, rfl, hk, hkN, hz, ha, hk_0, hk_1, hk_2, hk_3, hk_4, hk_5, hm⟩ := hrel
        obtain ⟨wl2, rfl⟩ : ∃ x, x = wr := ⟨_, rfl⟩
        obtain ⟨aol2, capl2, rfl⟩ := ha.shape
        have HAL2 := Lib.hid ha
        have HKL2_0 := Lib.hid hk_0
        have HKL2_1 := Lib.hid hk_1
        have HKL2_2 := Lib.hid hk_2
        have HKL2_3 := Lib.hid hk_3
        have HKL2_4 := Lib.hid hk_4
        have HKL2_5 := Lib.hid hk_5
        have HML2 := Lib.hid hm
        clear ha hm hk_0 hk_1 hk_2 hk_3 hk_4 hk_5 HKL1_0 HKL1_1 HKL1_2 HKL1_3 HKL1_4 HML1 HAL1
        by_cases hlt2 : k2 < x.os.length ∧ k2 < 4
        · obtain ⟨hlt2, hlN2⟩ := hlt2
          go_upto_region 8 with (fail)
          generalize ha0 : Act.mk _ _ = a0
          have oe1 : a0.eval (.tmp 1) = .pointer (some ⟨w.heap.size, 0, none⟩) := by rw [← ha0]; rfl
          have oe6 : a0.eval (.tmp 6) = .int .i64 ((k2 : Nat) : Int) := by rw [← ha0]; rfl
          have hsz0 : a0.tmps.size = 86 := by rw [← ha0]; rfl
          have HA0 := hid ha0
          clear ha0
          refine wp_region_Q0 86 hsz0 [31, 32, 33, 34, 35, 36, 37, 38, 39] [qi (.int .i64 ((k2 : Nat) : Int)), qi (.pointer (some ⟨w.heap.size, 3, none⟩)), qi (.slice ao_os x.os.length cap_os), qi (.int .i64 x.os.length), qi (.bool true), qi (.bool true), qi (.int .i64 ((k2 : Nat) : Int)), qi (.bool true), qi (.bool true)] ⟨qi_stable, qi_stable, qi_stable, qi_stable, qi_stable, qi_stable, qi_stable, qi_stable, qi_stable, trivial⟩ [] ⟨?_, ?_, ?_, ?_, ?_, ?_, ?_, ?_, ?_, trivial⟩ ?_
          · exact stq (fun E => ex_move rfl (E.v oe6))
          · exact stq (fun E => ex_field rfl Try.underlying60 rfl (by kernel_rfl) (E.v oe1))
          · exact stq (fun E => ex_load1 rfl Try.underlying57 rfl (E.d 1) (Cs.lit1 (HKL2_3.out.mod E.m.old (by intro h2; omega)) rfl))
          · exact stq (fun E => ex_lenS rfl (E.d 2) Try.underlying57)
          · exact stq (fun E => ex_binE rfl (E.d 0) (E.d 3) (guard_ints _ _ _ _ _ _) (run_lss_i _ _ _ Try.underlying3) (congrArg Value.bool (decide_eq_true (by omega))))
          · exact stq (fun E => ex_move rfl (E.d 4))
          · refine stepq_env rfl rfl rfl fun _ _ _ _ _ _ _ hout hsz hd _ _ => ?_
            have h5 := hd ⟨5, .guard⟩ (by simp) rfl _ rfl
            refine qe_run rfl ((wanted_of rfl rfl (hsz 36 (by decide)) h5).trans rfl) (ex_move rfl ((hout 6 (by decide)).trans oe6)) QE.refl ?_
            rfl
          · refine stepq_env rfl rfl rfl fun _ _ _ _ _ _ _ _ hsz hd _ _ => ?_
            have h5 := hd ⟨5, .guard⟩ (by simp) rfl _ rfl
            have h6 := hd ⟨6, .data⟩ (by simp) rfl _ rfl
            refine qe_run rfl ((wanted_of rfl rfl (hsz 36 (by decide)) h5).trans rfl) (ex_binE rfl h6 rfl (guard_ints _ _ _ _ _ _) (run_lss_i _ _ _ Try.underlying3) (congrArg Value.bool (decide_eq_true (by omega)))) QE.refl ?_
            rfl
          · exact stq (fun E => ex_pick rfl (E.d 5) (E.d 7) rfl)
          intro u8_0 hr
          have zu8_0 := hr.size
          have Cx19 := hid (hr.new (S := (fun _ => False)))
          clear hr
          refine QChain.nil fun vs hl hzz hrows hne => ?_
          obtain ⟨Z, hYZ, hZb, hV⟩ := hzz
          have f0 := fvi hV hl 0
          have f3 := fvi hV hl 3
          have f5 := fvi hV hl 5
          have f6 := fvi hV hl 6
          have f8 := fvi hV hl 8
          rw [show vs = [gw vs 0, gw vs 1, gw vs 2, gw vs 3, gw vs 4, gw vs 5, gw vs 6, gw vs 7, gw vs 8] from (gw_eta hl).trans rfl]
          have ha0 := HA0.out
          subst ha0
          clear HA0 hV hYZ hZb hsz0 hrows hne oe1 oe6
          simp only [putAll, Act.put, List.setIfInBounds_toArray, List.set_cons_zero, List.set_cons_succ, f0, f3, f5, f6, f8]
          clear hl f0 f3 f5 f6 f8
          have hat := (HKL2_1.out.mod Cx19.out (fun _ _ h => h)).at hlt2
          obtain ⟨g2, o2, cs2, eao, hrg, hrd, hcs⟩ := hat
          subst eao
          have hcl : cs2.length = 34 := OpR.len hrd
          have HCL2 := Lib.hid hcl
          have HAT2 := hid (show CellsAt R2 u8_0 g2 (o2 + k2 * 34) cs2 from ⟨hrg, hcs⟩)
          have HRD2 := Lib.hid hrd
          have HOC2 := hid (OpR.one hrd)
          clear hcl hcs hrd hrg
          have HE2 : Hid (((x.os.take k2).map cutOp) ++ [cutOp x.os[k2]] = (x.os.take (k2 + 1)).map cutOp) := hid (by rw [List.take_succ_eq_append_getElem hlt2, List.map_append]; rfl)
          have HLN2 : Hid (((x.os.take k2).map cutOp).length = k2) := hid (by rw [List.length_map, List.length_take]; omega)
          obtain ⟨y2, hy2⟩ : ∃ y, y = x.os[k2] := ⟨_, rfl⟩
          rw [← hy2] at HRD2 HE2
          clear hy2
          obtain ⟨v_e, rfl, hoke, hse⟩ := HRD2.out
          obtain ⟨aoe2, cape2, rfl⟩ := hse.shape
          have HOK2 := Lib.hid hoke
          have HSE2 := Lib.hid hse
          clear hoke hse HRD2
          go_upto_region 10 with (fail)
          generalize ha0 : Act.mk _ _ = a0
          have oe1 : a0.eval (.tmp 1) = .pointer (some ⟨w.heap.size, 0, none⟩) := by rw [← ha0]; rfl
          have oe6 : a0.eval (.tmp 6) = .int .i64 ((k2 : Nat) : Int) := by rw [← ha0]; rfl
          have hsz0 : a0.tmps.size = 86 := by rw [← ha0]; rfl
          have HA0 := hid ha0
          clear ha0
          refine wp_region_Q 86 hsz0 (by kernel_rfl) (by kernel_rfl) [42, 43, 44, 45, 46, 7, 92] (by kernel_rfl) (by decide) (fun _ => False) (fun _ _ => False) (fun _ _ h => h) [qi (.pointer (some ⟨w.heap.size, 3, none⟩)), qi (.slice (some ⟨g2, o2, none⟩) x.os.length cap_os), qi (.int .i64 ((k2 : Nat) : Int)), qi (.pointer (some ⟨g2, o2 + k2 * 34, none⟩)), qi (.agg (y2.cells (.slice aoe2 y2.pl.length cape2)).toArray), qa, qa] ⟨qi_stable, qi_stable, qi_stable, qi_stable, qi_stable, qa_stable, qa_stable, trivial⟩ [] (by kernel_rfl) (by decide) (by kernel_rfl) [⟨5, 6, 87, [.int .i64 0, .slice none 0 0, .int .u8 0, .int .u8 0, .int .u8 0, .int .u8 0, .int .u8 0, .int .u8 0, .int .u8 0, .int .u8 0, .int .u8 0, .int .u8 0, .int .u8 0, .int .u8 0, .int .u8 0, .int .u8 0, .int .u8 0, .int .u8 0, .int .u8 0, .int .u8 0, .int .u8 0, .int .u8 0, .int .u8 0, .int .u8 0, .int .u8 0, .int .u8 0, .int .u8 0, .int .u8 0, .int .u8 0, .int .u8 0, .int .u8 0, .int .u8 0, .int .u8 0, .int .u8 0], 0, (fun t => (y2.cells (.slice aoe2 y2.pl.length cape2)))⟩] (by kernel_rfl) (by intro r hr; simp only [List.mem_cons, List.not_mem_nil, or_false] at hr; rcases hr with rfl <;> exact ⟨by kernel_rfl, by kernel_rfl⟩) (by intro r hr; simp only [List.mem_cons, List.not_mem_nil, or_false] at hr; rcases hr with rfl <;> exact ⟨of_decide_eq_true (by kernel_rfl), of_decide_eq_true (by kernel_rfl)⟩) (by intro r hr; simp only [List.mem_cons, List.not_mem_nil, or_false] at hr; rcases hr with rfl <;> exact fun _ _ _ _ => ⟨trivial, trivial⟩) ⟨?_, ?_, ?_, ?_, ?_, ?_, ?_, trivial⟩ ?_
          · exact stq (fun E => ex_field rfl Try.underlying60 rfl (by kernel_rfl) (E.v oe1))
          · exact stq (fun E => ex_load1 rfl Try.underlying57 rfl (E.d 0) (Cs.lit1 ((HKL2_3.out.mod Cx19.out (fun h => h)).mod E.m.old (by intro h2; omega)) rfl))
          · exact stq (fun E => ex_move rfl (E.v oe6))
          · exact stq (fun E => ex_idxS (i := k2) (s := 34) rfl Try.underlying57 (by kernel_rfl) (E.d 1) (E.d 2) hlt2)
          · exact stq (fun E => ex_loadA rfl Try.underlying87 rfl (off := o2 + k2 * 34) (cs := (y2.cells (.slice aoe2 y2.pl.length cape2))) (by rw [HCL2.out]; kernel_rfl) (E.d 3) (fun j u hu => ((HAT2.out.mod E.m.old (by intro k h1 h2; have hb := HBT.out k h1; omega))).2 j u hu))
          · exact stepq_make rfl rfl ⟨rfl, rfl, by kernel_rfl, by kernel_rfl⟩
          · refine stepq_write rfl rfl rfl ⟨rfl, 7, (.tmp 46), rfl, by decide, rfl, by kernel_rfl, fun Z tr act w' hm hout hsz hd hpre => ?_⟩
            have h4 := hd ⟨4, .data⟩ (by simp) rfl _ rfl
            exact ⟨Nat.zero_le _, (by rw [show act.eval ((.tmp 46)) = _ from h4]; rfl), (by rw [HCL2.out]; rfl), HOC2.out⟩
          intro u10_0 hr
          have zu10_0 := hr.size
          have Cx20 := hid (hr.new (S := (fun _ => False)))
          clear hr
          refine QChain.nil fun vs hl hzz hrows hne => ?_
          obtain ⟨Z, hYZ, hZb, hV⟩ := hzz
          obtain ⟨q2, g5, hBq2, hYq2, hCq2⟩ := hrows _ (by simp only [List.mem_cons, List.not_mem_nil, or_false]; trivial)
          have f5 : gw vs 5 = _ := getv g5
          (try dsimp only at hBq2 hYq2); (try simp only [false_or] at hBq2 hYq2)
          have zqq2 := hCq2.lt
          have Hx21 := hid (show Cs u10_0 q2 ((y2.cells (.slice aoe2 y2.pl.length cape2)) : List Value).toArray 87 from hCq2)
          have f2 := fvi hV hl 2
          rw [show vs = [gw vs 0, gw vs 1, gw vs 2, gw vs 3, gw vs 4, gw vs 5, gw vs 6] from (gw_eta hl).trans rfl]
          have ha0 := HA0.out
          subst ha0
          clear HA0 hV hYZ hZb hsz0 hrows hne oe1 oe6 hCq2 g5
          simp only [putAll, Act.put, List.setIfInBounds_toArray, List.set_cons_zero, List.set_cons_succ, List.set_nil, f5, f2]
          clear hl f5 f2
          go_upto_region 11 with (fail)
          generalize ha0 : Act.mk _ _ = a0
          have oe7 : a0.eval (.tmp 7) = .pointer (some ⟨q2, 0, none⟩) := by rw [← ha0]; rfl
          have hsz0 : a0.tmps.size = 86 := by rw [← ha0]; rfl
          have HA0 := hid ha0
          clear ha0
          refine wp_region_Q1 86 hsz0 [47, 48, 49, 50, 90] (fun k => (k = q2)) (fun k j => (k = 1 ∧ ((j = q2)))) (fun _ _ h => h.2) [qi (.pointer (some ⟨q2, 1, none⟩)), qi (.slice aoe2 y2.pl.length cape2), qv 0, qi (.pointer (some ⟨q2, 1, none⟩)), qv 1] ⟨qi_stable, qi_stable, qv_stable, qi_stable, qv_stable, trivial⟩ [2, 4] ⟨?_, ?_, ?_, ?_, ?_, trivial⟩ ?_
          · exact stq (fun E => ex_field rfl Try.underlying87 rfl (by kernel_rfl) (E.v oe7))
          · refine stepq_env rfl rfl rfl fun _ _ _ _ _ _ hm0 _ _ hd hub _ => ?_
            have h0 := hd ⟨0, .data⟩ (by simp) rfl _ rfl
            refine qe_run rfl (wanted_none rfl) (ex_load1 rfl Try.underlying38 rfl h0 (Cs.hd1 (Hx21.out.mod hm0 (by intro h2; have hu := hub 1 4 rfl (by kernel_rfl); rcases h2 with ⟨h0, kk, hk, h2⟩ | h2 <;> omega)) rfl)) QE.refl ?_
            rfl
          · exact stepq_chain rfl
          · exact stq (fun E => ex_field rfl Try.underlying87 rfl (by kernel_rfl) (E.v oe7))
          · exact stepq_chain rfl
          intro u11_0 hr
          have zu11_0 := hr.size
          have Cx22 := hid (hr.new (S := (fun k => (k = q2))))
          have Hx23 := hid (Hx21.out.mod hr (by intro h2; omega))
          clear Hx21
          clear hr
          refine QChain.go fun Z act E => ?_
          refine qc_callF (args := #[.slice aoe2 y2.pl.length cape2, .int .i64 260]) rfl (wanted_none rfl) rfl Try.func26 (args2 (E.d 1) rfl) (Cut_R 260 ((HSE2.out.mod Cx20.out (fun _ _ h => h)).mod Cx22.out (by intro k h1 h2; have hb := HBT.out k h1; omega)) (by decide)) ?_
          rintro e u11_1a ⟨v', rfl, qpc, hm⟩
          obtain ⟨aop2, capp2, rfl⟩ := qpc.shape
          have zu11_1a := hm.size
          refine ⟨_, rfl, hm.mono (fun _ _ h => h.elim), (fun _ => rfl), ?_⟩
          intro u11_1 hr
          have zu11_1 := hr.size
          have Hx24 := hid ((qpc.widen (R' := (fun k => (New u11_0 u11_1a k))) (fun _ h => h) (Nat.le_refl _)).mod hr (by intro k h1 h2; omega))
          have hmr := Mod.after hm hr
          have Hx25 := hid (Hx23.out.mod hmr (by intro h2; omega))
          clear Hx23
          clear hmr
          have Cx26 := hid (Cx22.out.go hm hr)
          clear Cx22 hm hr Z act E qpc
          refine QChain.go fun Z act E => ?_
          refine qc_store rfl (wanted_none rfl) rfl Hx25.out (off := 1) (vs := [Value.slice aop2 (y2.pl.take 260).length capp2]) (by kernel_rfl) (by intro u hu; simp at hu; subst hu; rfl) (by rw [List.size_toArray, op_len _ _ HOK2.out.2.1]; show 1 + 1 ≤ 34; decide) (E.d 3) (by rw [show act.eval ((.tmp 49)) = _ from (chv (v := .slice aop2 (y2.pl.take 260).length capp2) (E.d 2))]; rfl) ?_
          intro u11_2a qc0 hm
          have qq2 : Cs u11_2a (q2) (((cutOp y2).cells (Value.slice aop2 (y2.pl.take 260).length capp2)) : List Value).toArray 87 := by rw [show lay _ 1 _ = (((cutOp y2).cells (Value.slice aop2 (y2.pl.take 260).length capp2)) : List Value).toArray from lay_pl y2 (cutOp y2) _ _ ⟨rfl, rfl⟩] at qc0; exact qc0
          clear qc0
          have zu11_2a := hm.size
          refine ⟨hm.mono (by intro k hk h; omega), (fun _ => rfl), ?_⟩
          intro u11_2 hr
          have zu11_2 := hr.size
          have Hx27 := hid (qq2.mod hr (by intro h2; omega))
          have hmr := hm.two hr
          have Hx28 := hid (Hx24.out.mod hmr (by intro k h1 h2; omega))
          clear Hx24
          clear hmr
          have Cx29 := hid (Cx26.out.goM hm hr (fun _ _ h => h))
          clear Cx26 hm hr Z act E qq2 Hx25
          refine QChain.nil fun vs hl hzz hrows hne => ?_
          obtain ⟨Z, hYZ, hZb, hV⟩ := hzz
          have f2 := fvc hV hl 2
          rw [show vs = [gw vs 0, gw vs 1, gw vs 2, gw vs 3, gw vs 4] from (gw_eta hl).trans rfl]
          have ha0 := HA0.out
          subst ha0
          clear HA0 hV hYZ hZb hsz0 hrows hne oe7
          simp only [putAll, Act.put, List.setIfInBounds_toArray, List.set_cons_zero, List.set_cons_succ, List.set_nil, f2]
          clear hl f2
          have HEL2 := hid (show OpR.rd (fun k => (New u11_0 u11_1a k)) u11_2 ((cutOp y2).cells (Value.slice aop2 (y2.pl.take 260).length capp2)) (cutOp y2) from ⟨_, rfl, HOK2.out, RdR_len Hx28.out.rd⟩)
          go_upto_region 12 with (fail)
          generalize ha0 : Act.mk _ _ = a0
          have oe5 : a0.eval (.tmp 5) = .slice aol2 ((x.os.take k2).map cutOp).length capl2 := by rw [← ha0]; rfl
          have oe7 : a0.eval (.tmp 7) = .pointer (some ⟨q2, 0, none⟩) := by rw [← ha0]; rfl
          have hsz0 : a0.tmps.size = 86 := by rw [← ha0]; rfl
          have HA0 := hid ha0
          clear ha0
          refine wp_region_Q1 86 hsz0 [51, 52, 53, 54, 5] (fun k => (New u3_0 wl2 k)) (fun k j => (k = 1 ∧ ((New u3_0 wl2 j)))) (fun _ _ h => h.2) [qi (.slice aol2 ((x.os.take k2).map cutOp).length capl2), qi (.agg ((cutOp y2).cells (Value.slice aop2 (y2.pl.take 260).length capp2)).toArray), qv 0, qv 1, qv 1] ⟨qi_stable, qi_stable, qv_stable, qv_stable, qv_stable, trivial⟩ [2, 3] ⟨?_, ?_, ?_, ?_, ?_, trivial⟩ ?_
          · exact stq (fun E => ex_move rfl ((E.pre 4 5 rfl (by kernel_rfl)).trans oe5))
          · exact stq (fun E => ex_loadA rfl Try.underlying87 rfl (off := 0) (cs := ((cutOp y2).cells (Value.slice aop2 (y2.pl.take 260).length capp2))) (by rw [op_len (cutOp y2) _ HOK2.out.2.1]; kernel_rfl) (E.v oe7) (Cs.whole (Hx27.out.mod E.m (by intro h2; omega))))
          · exact stepq_chain rfl
          · exact stepq_chain rfl
          · refine stepq_env rfl rfl rfl fun _ _ _ _ _ _ _ _ _ hd _ _ => ?_
            have h3 := hd ⟨3, .data⟩ (by simp) rfl _ rfl
            exact qe_run rfl (wanted_none rfl) (ex_assign rfl rfl) QE.refl h3
          intro u12_0 hr
          have zu12_0 := hr.size
          have Cx30 := hid (hr.new (S := (fun k => (New u3_0 wl2 k))))
          have Hx31 := hid ((((HAL2.out.mod Cx19.out (fun _ _ h => h) (fun _ _ h => h)).mod Cx20.out (fun _ _ h => h) (fun _ _ h => h)).mod Cx29.out (by intro k h1 h2; omega) (by intro k h1 h2; rcases h1 with h1 | h1 <;> first | omega | (have hb := HBT.out k h1; omega))).mod hr (by intro k h1 h2; omega) (by intro k h1 h2; rcases h1 with h1 | h1 <;> first | omega | (have hb := HBT.out k h1; omega)))
          clear HAL2
          clear hr
          refine QChain.go fun Z act E => ?_
          refine qc_buildS (e := 87) (cs := ((cutOp y2).cells (Value.slice aop2 (y2.pl.take 260).length capp2))) (zc := [.int .i64 0, .slice none 0 0, .int .u8 0, .int .u8 0, .int .u8 0, .int .u8 0, .int .u8 0, .int .u8 0, .int .u8 0, .int .u8 0, .int .u8 0, .int .u8 0, .int .u8 0, .int .u8 0, .int .u8 0, .int .u8 0, .int .u8 0, .int .u8 0, .int .u8 0, .int .u8 0, .int .u8 0, .int .u8 0, .int .u8 0, .int .u8 0, .int .u8 0, .int .u8 0, .int .u8 0, .int .u8 0, .int .u8 0, .int .u8 0, .int .u8 0, .int .u8 0, .int .u8 0, .int .u8 0]) (sz := 34) rfl (wanted_none rfl) rfl Try.underlying57 (by kernel_rfl) rfl (by decide) (by decide) (E.d 1) (OpR.len (HEL2.out.mod Cx30.out (by intro k h1 h2; omega))) ?_
          intro u12_1a qrow hm
          have zl12_2 := qrow.lt
          have zu12_1a := hm.size
          refine ⟨hm.mono (fun _ _ h => h.elim), (fun _ => rfl), ?_⟩
          intro u12_1 hr
          have zu12_1 := hr.size
          have Hx32 := hid (qrow.mod hr (by intro h2; omega))
          have hmr := Mod.after hm hr
          have Hx33 := hid (Hx31.out.mod hmr (by intro k h1 h2; omega) (by intro k h1 h2; rcases h1 with h1 | h1 <;> first | omega | (have hb := HBT.out k h1; omega)))
          clear Hx31
          clear hmr
          have Cx34 := hid (Cx30.out.go hm hr)
          clear Cx30 hm hr Z act E qrow
          refine QChain.go fun Z act E => ?_
          refine qc_appS (A := OpR) (e := 87) rfl (wanted_none rfl) rfl (.agg #[.int .i64 0, .slice none 0 0, .int .u8 0, .int .u8 0, .int .u8 0, .int .u8 0, .int .u8 0, .int .u8 0, .int .u8 0, .int .u8 0, .int .u8 0, .int .u8 0, .int .u8 0, .int .u8 0, .int .u8 0, .int .u8 0, .int .u8 0, .int .u8 0, .int .u8 0, .int .u8 0, .int .u8 0, .int .u8 0, .int .u8 0, .int .u8 0, .int .u8 0, .int .u8 0, .int .u8 0, .int .u8 0, .int .u8 0, .int .u8 0, .int .u8 0, .int .u8 0, .int .u8 0, .int .u8 0]) 64 Try.underlying57 info_Op (by rfl) (of_decide_eq_true (by kernel_rfl)) (E.d 0) (chv (v := .slice (some ⟨u12_0.heap.size, 0, none⟩) 1 1) (E.d 2)) (Hx33.out) (RdS.single (R := (fun k => (New u11_0 u11_1a k) ∨ (k = u12_0.heap.size))) Hx32.out ((HEL2.out.mod Cx34.out (by intro k h1 h2; omega)).widen (by intro k h1; first | omega | exact h1.elim | exact Or.inl h1 | exact Or.inr (h1))) (by first | exact Or.inr rfl | exact Or.inr (Or.inr rfl) | (right; omega))) (by intro k h1 h2; omega) (by rw [HLN2.out]; simp only [List.length_cons, List.length_nil]; omega) (by rw [HLN2.out, maxLen_val]; simp only [List.length_cons, List.length_nil]; omega) ?_
          intro ao14 cap14 u12_2a qacc2 hm
          have zu12_2a := hm.size
          refine ⟨hm.mono (by intro k hk h; omega), (fun _ => rfl), ?_⟩
          intro u12_2 hr
          have zu12_2 := hr.size
          have Hx35 := hid ((qacc2.widen (R' := (fun k => (New u3_0 wl2 k) ∨ (New u12_1 u12_2a k))) (E' := (fun k => (R2 k) ∨ (New u3_0 wl2 k) ∨ (New u11_0 u11_1a k) ∨ (k = u12_0.heap.size))) (fun _ h => h) (by intro k h1; rcases h1 with (h1 | h1) | (h1 | h1) <;> first | omega | exact h1.elim | exact Or.inl h1 | exact Or.inr (Or.inl h1) | exact Or.inr (Or.inr (Or.inl h1)) | exact Or.inr (Or.inr (Or.inr (h1))))).mod hr (by intro k h1 h2; omega) (by intro k h1 h2; rcases h1 with h1 | h1 | h1 | h1 <;> first | omega | (have hb := HBT.out k h1; omega)))
          have hmr := hm.two hr
          have Hx36 := hid (Hx32.out.mod hmr (by intro h2; omega))
          clear Hx32
          clear hmr
          have Cx37 := hid (Cx34.out.goM hm hr (fun _ _ h => h))
          clear Cx34 hm hr Z act E qacc2 Hx33
          refine QChain.nil fun vs hl hzz hrows hne => ?_
          obtain ⟨Z, hYZ, hZb, hV⟩ := hzz
          have f0 := fvi hV hl 0
          have f2 := fvc hV hl 2
          have f3 := fvc hV hl 3
          have f4 := fvc hV hl 4
          rw [show vs = [gw vs 0, gw vs 1, gw vs 2, gw vs 3, gw vs 4] from (gw_eta hl).trans rfl]
          have ha0 := HA0.out
          subst ha0
          clear HA0 hV hYZ hZb hsz0 hrows hne oe5 oe7
          simp only [putAll, Act.put, List.setIfInBounds_toArray, List.set_cons_zero, List.set_cons_succ, f0, f2, f3, f4]
          clear hl f0 f2 f3 f4
          have hq := Hx35.out
          rw [HE2.out] at hq
          have HQ2 := Lib.hid hq
          clear hq
          go_wp2
          go_roundw
          case rel => exact ⟨k2 + 1, by go_num, by omega, by omega, by omega, (HQ2.out.widen (by intro b h1; omega) (by intro k h1; rcases h1 with h1 | h1 | h1 | h1 <;> first | omega | exact h1.elim | exact Or.inl h1 | exact Or.inr (h1))), ((((HKL2_0.out.mod Cx19.out (fun _ _ h => h)).mod Cx20.out (fun _ _ h => h)).mod Cx29.out (by intro k h1 h2; have hb := HBT.out k h1; omega)).mod Cx37.out (by intro k h1 h2; have hb := HBT.out k h1; omega)), ((((HKL2_1.out.mod Cx19.out (fun _ _ h => h)).mod Cx20.out (fun _ _ h => h)).mod Cx29.out (by intro k h1 h2; have hb := HBT.out k h1; omega)).mod Cx37.out (by intro k h1 h2; have hb := HBT.out k h1; omega)), ((((HKL2_2.out.mod Cx19.out (fun _ _ h => h)).mod Cx20.out (fun _ _ h => h)).mod Cx29.out (by intro k h1 h2; have hb := HBT.out k h1; omega)).mod Cx37.out (by intro k h1 h2; have hb := HBT.out k h1; omega)), ((((HKL2_3.out.mod Cx19.out (fun h => h)).mod Cx20.out (fun h => h)).mod Cx29.out (by intro h2; omega)).mod Cx37.out (by intro h2; omega)), ((((HKL2_4.out.mod Cx19.out (fun h => h)).mod Cx20.out (fun h => h)).mod Cx29.out (by intro h2; omega)).mod Cx37.out (by intro h2; omega)), ((((HKL2_5.out.mod Cx19.out (fun _ _ h => h) (fun _ _ h => h)).mod Cx20.out (fun _ _ h => h) (fun _ _ h => h)).mod Cx29.out (by intro k h1 h2; omega) (by intro k h1 h2; rcases h1 with h1 | h1 <;> first | omega | (have hb := HBT.out k h1; omega))).mod Cx37.out (by intro k h1 h2; omega) (by intro k h1 h2; rcases h1 with h1 | h1 <;> first | omega | (have hb := HBT.out k h1; omega))), ((((HML2.out.trans Cx19.out (fun _ _ h => h.elim)).trans Cx20.out (fun _ _ h => h.elim)).trans Cx29.out (by intro k h1 h2; omega)).trans Cx37.out (by intro k h1 h2; omega))⟩
          case measure => simp [intOf]; omega
        · skip
          obtain ⟨bA2, hbA2⟩ : ∃ b : Bool, b = decide (((k2 : Nat) : Int) < (x.os.length : Int)) := ⟨_, rfl⟩
          obtain ⟨bB2, hbB2⟩ : ∃ b : Bool, b = decide (((k2 : Nat) : Int) < 4) := ⟨_, rfl⟩
          go_upto_region 8 with (fail)
          generalize ha0 : Act.mk _ _ = a0
          have oe1 : a0.eval (.tmp 1) = .pointer (some ⟨w.heap.size, 0, none⟩) := by rw [← ha0]; rfl
          have oe6 : a0.eval (.tmp 6) = .int .i64 ((k2 : Nat) : Int) := by rw [← ha0]; rfl
          have hsz0 : a0.tmps.size = 86 := by rw [← ha0]; rfl
          have HA0 := hid ha0
          clear ha0
          refine wp_region_Q0 86 hsz0 [31, 32, 33, 34, 35, 36, 37, 38, 39] [qi (.int .i64 ((k2 : Nat) : Int)), qi (.pointer (some ⟨w.heap.size, 3, none⟩)), qi (.slice ao_os x.os.length cap_os), qi (.int .i64 x.os.length), qi (.bool bA2), qi (.bool bA2), qc bA2 (qi (.int .i64 ((k2 : Nat) : Int))), qc bA2 (qi (.bool bB2)), qi (.bool (bA2 && bB2))] ⟨qi_stable, qi_stable, qi_stable, qi_stable, qi_stable, qi_stable, (qc_stable qi_stable), (qc_stable qi_stable), qi_stable, trivial⟩ [] ⟨?_, ?_, ?_, ?_, ?_, ?_, ?_, ?_, ?_, trivial⟩ ?_
          · exact stq (fun E => ex_move rfl (E.v oe6))
          · exact stq (fun E => ex_field rfl Try.underlying60 rfl (by kernel_rfl) (E.v oe1))
          · exact stq (fun E => ex_load1 rfl Try.underlying57 rfl (E.d 1) (Cs.lit1 (HKL2_3.out.mod E.m.old (by intro h2; omega)) rfl))
          · exact stq (fun E => ex_lenS rfl (E.d 2) Try.underlying57)
          · exact stq (fun E => ex_binE rfl (E.d 0) (E.d 3) (guard_ints _ _ _ _ _ _) (run_lss_i _ _ _ Try.underlying3) (congrArg Value.bool hbA2.symm))
          · exact stq (fun E => ex_move rfl (E.d 4))
          · refine stepq_env rfl rfl rfl fun _ _ _ _ _ _ _ hout hsz hd _ _ => ?_
            have h5 := hd ⟨5, .guard⟩ (by simp) rfl _ rfl
            refine qe_guard rfl (b := bA2) ((wanted_of rfl rfl (hsz 36 (by decide)) h5).trans (by simp)) rfl (fun hb l' hl' => ?_)
            refine qe_run rfl ((wanted_of rfl rfl (hsz 36 (by decide)) h5).trans (by first | exact hb | simpa using hb)) (ex_move rfl ((hout 6 (by decide)).trans oe6)) QE.refl ?_
            rw [hl']; rfl
          · refine stepq_env rfl rfl rfl fun _ _ _ _ _ _ _ _ hsz hd _ _ => ?_
            have h5 := hd ⟨5, .guard⟩ (by simp) rfl _ rfl
            have h6 := hd ⟨6, .data⟩ (by simp) rfl _ rfl
            refine qe_guard rfl (b := bA2) ((wanted_of rfl rfl (hsz 36 (by decide)) h5).trans (by simp)) rfl (fun hb l' hl' => ?_)
            refine qe_run rfl ((wanted_of rfl rfl (hsz 36 (by decide)) h5).trans (by first | exact hb | simpa using hb)) (ex_binE rfl (h6.1 hb) rfl (guard_ints _ _ _ _ _ _) (run_lss_i _ _ _ Try.underlying3) (congrArg Value.bool hbB2.symm)) QE.refl ?_
            rw [hl']; rfl
          · exact stq (fun E => ex_pickE rfl (E.d 5) rfl rfl (and_val fun hb => (E.d 7).1 hb))
          intro u8_0 hr
          have zu8_0 := hr.size
          have Cx38 := hid (hr.new (S := (fun _ => False)))
          clear hr
          refine QChain.nil fun vs hl hzz hrows hne => ?_
          obtain ⟨Z, hYZ, hZb, hV⟩ := hzz
          have f0 := fvi hV hl 0
          have f3 := fvi hV hl 3
          have f5 := fvi hV hl 5
          have f8 := fvi hV hl 8
          rw [show vs = [gw vs 0, gw vs 1, gw vs 2, gw vs 3, gw vs 4, gw vs 5, gw vs 6, gw vs 7, gw vs 8] from (gw_eta hl).trans rfl]
          have ha0 := HA0.out
          subst ha0
          clear HA0 hV hYZ hZb hsz0 hrows hne oe1 oe6
          simp only [putAll, Act.put, List.setIfInBounds_toArray, List.set_cons_zero, List.set_cons_succ, f0, f3, f5, f8]
          clear hl f0 f3 f5 f8
          rw [show (bA2 && bB2) = false by rw [hbA2, hbB2, Bool.and_eq_false_iff, decide_eq_false_iff_not, decide_eq_false_iff_not]; omega]
          have HTK2 := hid (show x.os.take k2 = x.os.take 4 from take_two (by omega) (by omega))
          go_wp2
          go_loopw [8, 9] (fun ta ti wr => ∃ k : Nat, ti = .int .i64 (k : Int) ∧ k ≤ x.ts.length ∧ k ≤ 4 ∧ u8_0.heap.size ≤ wr.heap.size ∧ OwS TbR 90 (fun b => u8_0.heap.size ≤ b ∧ b < wr.heap.size) (fun b => R2 b ∨ (u8_0.heap.size ≤ b ∧ b < wr.heap.size)) wr ta ((x.ts.take k).map cutTb) ∧ RdS PmR R2 wr (.slice ao_ps x.ps.length cap_ps) x.ps ∧ RdS OpR R2 wr (.slice ao_os x.os.length cap_os) x.os ∧ RdS TbR R2 wr (.slice ao_ts x.ts.length cap_ts) x.ts ∧ Cs wr (w.heap.size) (x.cells (.slice ao_ps x.ps.length cap_ps) (.slice ao_os x.os.length cap_os) (.slice ao_ts x.ts.length cap_ts) : List Value).toArray 60 ∧ Cs wr (w.heap.size + 1) #[.int .i64 0, .int .u64 0, .slice none 0 0, .slice none 0 0, .slice none 0 0] 60 ∧ OwS PmR 55 (fun b => w1.heap.size ≤ b ∧ b < wl1.heap.size) (fun b => R2 b ∨ (w1.heap.size ≤ b ∧ b < wl1.heap.size)) wr (.slice aol1 ((x.ps.take k1).map cutPm).length capl1) ((x.ps.take k1).map cutPm) ∧ OwS OpR 87 (fun b => u3_0.heap.size ≤ b ∧ b < wl2.heap.size) (fun b => R2 b ∨ (u3_0.heap.size ≤ b ∧ b < wl2.heap.size)) wr (.slice aol2 ((x.os.take k2).map cutOp).length capl2) ((x.os.take k2).map cutOp) ∧ Mod (fun _ => False) w wr) (fun _ ti _ => x.ts.length - (intOf ti).toNat)
          case atStart => exact ⟨0, rfl, Nat.zero_le _, Nat.zero_le _, Nat.le_refl _, OwS.nil _ _ _ _ _, (HKL2_0.out.mod Cx38.out (fun _ _ h => h)), (HKL2_1.out.mod Cx38.out (fun _ _ h => h)), (HKL2_2.out.mod Cx38.out (fun _ _ h => h)), (HKL2_3.out.mod Cx38.out (fun h => h)), (HKL2_4.out.mod Cx38.out (fun h => h)), (HKL2_5.out.mod Cx38.out (fun _ _ h => h) (fun _ _ h => h)), (HAL2.out.mod Cx38.out (fun _ _ h => h) (fun _ _ h => h)), (HML2.out.trans Cx38.out (fun _ _ h => h.elim))⟩
          case round =>
            obtain ⟨k3, rfl, hk, hkN, hz, ha, hk_0, hk_1, hk_2, hk_3, hk_4, hk_5, hk_6, hm⟩ := hrel
            obtain ⟨wl3, rfl⟩ : ∃ x, x = wr := ⟨_, rfl⟩
            obtain ⟨aol3, capl3, rfl⟩ := ha.shape
            have HAL3 := Lib.hid ha
            have HKL3_0 := Lib.hid hk_0
            have HKL3_1 := Lib.hid hk_1
            have HKL3_2 := Lib.hid hk_2
            have HKL3_3 := Lib.hid hk_3
            have HKL3_4 := Lib.hid hk_4
            have HKL3_5 := Lib.hid hk_5
            have HKL3_6 := Lib.hid hk_6
            have HML3 := Lib.hid hm
            clear ha hm hk_0 hk_1 hk_2 hk_3 hk_4 hk_5 hk_6 HKL2_0 HKL2_1 HKL2_2 HKL2_3 HKL2_4 HKL2_5 HML2 HAL2
            by_cases hlt3 : k3 < x.ts.length ∧ k3 < 4
            · obtain ⟨hlt3, hlN3⟩ := hlt3
              go_upto_region 15 with (fail)
              generalize ha0 : Act.mk _ _ = a0
              have oe1 : a0.eval (.tmp 1) = .pointer (some ⟨w.heap.size, 0, none⟩) := by rw [← ha0]; rfl
              have oe9 : a0.eval (.tmp 9) = .int .i64 ((k3 : Nat) : Int) := by rw [← ha0]; rfl
              have hsz0 : a0.tmps.size = 86 := by rw [← ha0]; rfl
              have HA0 := hid ha0
              clear ha0
              refine wp_region_Q0 86 hsz0 [55, 56, 57, 58, 59, 60, 61, 62, 63] [qi (.int .i64 ((k3 : Nat) : Int)), qi (.pointer (some ⟨w.heap.size, 4, none⟩)), qi (.slice ao_ts x.ts.length cap_ts), qi (.int .i64 x.ts.length), qi (.bool true), qi (.bool true), qi (.int .i64 ((k3 : Nat) : Int)), qi (.bool true), qi (.bool true)] ⟨qi_stable, qi_stable, qi_stable, qi_stable, qi_stable, qi_stable, qi_stable, qi_stable, qi_stable, trivial⟩ [] ⟨?_, ?_, ?_, ?_, ?_, ?_, ?_, ?_, ?_, trivial⟩ ?_
              · exact stq (fun E => ex_move rfl (E.v oe9))
              · exact stq (fun E => ex_field rfl Try.underlying60 rfl (by kernel_rfl) (E.v oe1))
              · exact stq (fun E => ex_load1 rfl Try.underlying58 rfl (E.d 1) (Cs.lit1 (HKL3_3.out.mod E.m.old (by intro h2; omega)) rfl))
              · exact stq (fun E => ex_lenS rfl (E.d 2) Try.underlying58)
              · exact stq (fun E => ex_binE rfl (E.d 0) (E.d 3) (guard_ints _ _ _ _ _ _) (run_lss_i _ _ _ Try.underlying3) (congrArg Value.bool (decide_eq_true (by omega))))
              · exact stq (fun E => ex_move rfl (E.d 4))
              · refine stepq_env rfl rfl rfl fun _ _ _ _ _ _ _ hout hsz hd _ _ => ?_
                have h5 := hd ⟨5, .guard⟩ (by simp) rfl _ rfl
                refine qe_run rfl ((wanted_of rfl rfl (hsz 60 (by decide)) h5).trans rfl) (ex_move rfl ((hout 9 (by decide)).trans oe9)) QE.refl ?_
                rfl
              · refine stepq_env rfl rfl rfl fun _ _ _ _ _ _ _ _ hsz hd _ _ => ?_
                have h5 := hd ⟨5, .guard⟩ (by simp) rfl _ rfl
                have h6 := hd ⟨6, .data⟩ (by simp) rfl _ rfl
                refine qe_run rfl ((wanted_of rfl rfl (hsz 60 (by decide)) h5).trans rfl) (ex_binE rfl h6 rfl (guard_ints _ _ _ _ _ _) (run_lss_i _ _ _ Try.underlying3) (congrArg Value.bool (decide_eq_true (by omega)))) QE.refl ?_
                rfl
              · exact stq (fun E => ex_pick rfl (E.d 5) (E.d 7) rfl)
              intro u15_0 hr
              have zu15_0 := hr.size
              have Cx39 := hid (hr.new (S := (fun _ => False)))
              clear hr
              refine QChain.nil fun vs hl hzz hrows hne => ?_
              obtain ⟨Z, hYZ, hZb, hV⟩ := hzz
              have f0 := fvi hV hl 0
              have f3 := fvi hV hl 3
              have f5 := fvi hV hl 5
              have f6 := fvi hV hl 6
              have f8 := fvi hV hl 8
              rw [show vs = [gw vs 0, gw vs 1, gw vs 2, gw vs 3, gw vs 4, gw vs 5, gw vs 6, gw vs 7, gw vs 8] from (gw_eta hl).trans rfl]
              have ha0 := HA0.out
              subst ha0
              clear HA0 hV hYZ hZb hsz0 hrows hne oe1 oe9
              simp only [putAll, Act.put, List.setIfInBounds_toArray, List.set_cons_zero, List.set_cons_succ, f0, f3, f5, f6, f8]
              clear hl f0 f3 f5 f6 f8
              have hat := (HKL3_2.out.mod Cx39.out (fun _ _ h => h)).at hlt3
              obtain ⟨g3, o3, cs3, eao, hrg, hrd, hcs⟩ := hat
              subst eao
              have hcl : cs3.length = 2 := TbR.len hrd
              have HCL3 := Lib.hid hcl
              have HAT3 := hid (show CellsAt R2 u15_0 g3 (o3 + k3 * 2) cs3 from ⟨hrg, hcs⟩)
              have HRD3 := Lib.hid hrd
              have HOC3 := hid (TbR.one hrd)
              clear hcl hcs hrd hrg
              have HE3 : Hid (((x.ts.take k3).map cutTb) ++ [cutTb x.ts[k3]] = (x.ts.take (k3 + 1)).map cutTb) := hid (by rw [List.take_succ_eq_append_getElem hlt3, List.map_append]; rfl)
              have HLN3 : Hid (((x.ts.take k3).map cutTb).length = k3) := hid (by rw [List.length_map, List.length_take]; omega)
              obtain ⟨y3, hy3⟩ : ∃ y, y = x.ts[k3] := ⟨_, rfl⟩
              rw [← hy3] at HRD3 HE3
              clear hy3
              obtain ⟨v_e, rfl, hoke, hse⟩ := HRD3.out
              obtain ⟨aoe3, cape3, rfl⟩ := hse.shape
              have HOK3 := Lib.hid hoke
              have HSE3 := Lib.hid hse
              clear hoke hse HRD3
              go_upto_region 17 with (fail)
              generalize ha0 : Act.mk _ _ = a0
              have oe1 : a0.eval (.tmp 1) = .pointer (some ⟨w.heap.size, 0, none⟩) := by rw [← ha0]; rfl
              have oe9 : a0.eval (.tmp 9) = .int .i64 ((k3 : Nat) : Int) := by rw [← ha0]; rfl
              have hsz0 : a0.tmps.size = 86 := by rw [← ha0]; rfl
              have HA0 := hid ha0
              clear ha0
              refine wp_region_Q 86 hsz0 (by kernel_rfl) (by kernel_rfl) [66, 67, 68, 69, 70, 10, 92] (by kernel_rfl) (by decide) (fun _ => False) (fun _ _ => False) (fun _ _ h => h) [qi (.pointer (some ⟨w.heap.size, 4, none⟩)), qi (.slice (some ⟨g3, o3, none⟩) x.ts.length cap_ts), qi (.int .i64 ((k3 : Nat) : Int)), qi (.pointer (some ⟨g3, o3 + k3 * 2, none⟩)), qi (.agg (y3.cells (.slice aoe3 y3.l.length cape3)).toArray), qa, qa] ⟨qi_stable, qi_stable, qi_stable, qi_stable, qi_stable, qa_stable, qa_stable, trivial⟩ [] (by kernel_rfl) (by decide) (by kernel_rfl) [⟨5, 6, 90, [.int .i64 0, .slice none 0 0], 0, (fun t => (y3.cells (.slice aoe3 y3.l.length cape3)))⟩] (by kernel_rfl) (by intro r hr; simp only [List.mem_cons, List.not_mem_nil, or_false] at hr; rcases hr with rfl <;> exact ⟨by kernel_rfl, by kernel_rfl⟩) (by intro r hr; simp only [List.mem_cons, List.not_mem_nil, or_false] at hr; rcases hr with rfl <;> exact ⟨of_decide_eq_true (by kernel_rfl), of_decide_eq_true (by kernel_rfl)⟩) (by intro r hr; simp only [List.mem_cons, List.not_mem_nil, or_false] at hr; rcases hr with rfl <;> exact fun _ _ _ _ => ⟨trivial, trivial⟩) ⟨?_, ?_, ?_, ?_, ?_, ?_, ?_, trivial⟩ ?_
              · exact stq (fun E => ex_field rfl Try.underlying60 rfl (by kernel_rfl) (E.v oe1))
              · exact stq (fun E => ex_load1 rfl Try.underlying58 rfl (E.d 0) (Cs.lit1 ((HKL3_3.out.mod Cx39.out (fun h => h)).mod E.m.old (by intro h2; omega)) rfl))
              · exact stq (fun E => ex_move rfl (E.v oe9))
              · exact stq (fun E => ex_idxS (i := k3) (s := 2) rfl Try.underlying58 (by kernel_rfl) (E.d 1) (E.d 2) hlt3)
              · exact stq (fun E => ex_loadA rfl Try.underlying90 rfl (off := o3 + k3 * 2) (cs := (y3.cells (.slice aoe3 y3.l.length cape3))) (by rw [HCL3.out]; kernel_rfl) (E.d 3) (fun j u hu => ((HAT3.out.mod E.m.old (by intro k h1 h2; have hb := HBT.out k h1; omega))).2 j u hu))
              · exact stepq_make rfl rfl ⟨rfl, rfl, by kernel_rfl, by kernel_rfl⟩
              · refine stepq_write rfl rfl rfl ⟨rfl, 10, (.tmp 70), rfl, by decide, rfl, by kernel_rfl, fun Z tr act w' hm hout hsz hd hpre => ?_⟩
                have h4 := hd ⟨4, .data⟩ (by simp) rfl _ rfl
                exact ⟨Nat.zero_le _, (by rw [show act.eval ((.tmp 70)) = _ from h4]; rfl), (by rw [HCL3.out]; rfl), HOC3.out⟩
              intro u17_0 hr
              have zu17_0 := hr.size
              have Cx40 := hid (hr.new (S := (fun _ => False)))
              clear hr
              refine QChain.nil fun vs hl hzz hrows hne => ?_
              obtain ⟨Z, hYZ, hZb, hV⟩ := hzz
              obtain ⟨q3, g5, hBq3, hYq3, hCq3⟩ := hrows _ (by simp only [List.mem_cons, List.not_mem_nil, or_false]; trivial)
              have f5 : gw vs 5 = _ := getv g5
              (try dsimp only at hBq3 hYq3); (try simp only [false_or] at hBq3 hYq3)
              have zqq3 := hCq3.lt
              have Hx41 := hid (show Cs u17_0 q3 ((y3.cells (.slice aoe3 y3.l.length cape3)) : List Value).toArray 90 from hCq3)
              have f2 := fvi hV hl 2
              rw [show vs = [gw vs 0, gw vs 1, gw vs 2, gw vs 3, gw vs 4, gw vs 5, gw vs 6] from (gw_eta hl).trans rfl]
              have ha0 := HA0.out
              subst ha0
              clear HA0 hV hYZ hZb hsz0 hrows hne oe1 oe9 hCq3 g5
              simp only [putAll, Act.put, List.setIfInBounds_toArray, List.set_cons_zero, List.set_cons_succ, List.set_nil, f5, f2]
              clear hl f5 f2
              go_upto_region 18 with (fail)
              generalize ha0 : Act.mk _ _ = a0
              have oe10 : a0.eval (.tmp 10) = .pointer (some ⟨q3, 0, none⟩) := by rw [← ha0]; rfl
              have hsz0 : a0.tmps.size = 86 := by rw [← ha0]; rfl
              have HA0 := hid ha0
              clear ha0
              refine wp_region_Q1 86 hsz0 [71, 72, 73, 74, 90] (fun k => (k = q3)) (fun k j => (k = 1 ∧ ((j = q3)))) (fun _ _ h => h.2) [qi (.pointer (some ⟨q3, 1, none⟩)), qi (.slice aoe3 y3.l.length cape3), qv 0, qi (.pointer (some ⟨q3, 1, none⟩)), qv 1] ⟨qi_stable, qi_stable, qv_stable, qi_stable, qv_stable, trivial⟩ [2, 4] ⟨?_, ?_, ?_, ?_, ?_, trivial⟩ ?_
              · exact stq (fun E => ex_field rfl Try.underlying90 rfl (by kernel_rfl) (E.v oe10))
              · refine stepq_env rfl rfl rfl fun _ _ _ _ _ _ hm0 _ _ hd hub _ => ?_
                have h0 := hd ⟨0, .data⟩ (by simp) rfl _ rfl
                refine qe_run rfl (wanted_none rfl) (ex_load1 rfl Try.underlying88 rfl h0 (Cs.lit1 (Hx41.out.mod hm0 (by intro h2; have hu := hub 1 4 rfl (by kernel_rfl); rcases h2 with ⟨h0, kk, hk, h2⟩ | h2 <;> omega)) rfl)) QE.refl ?_
                rfl
              · exact stepq_chain rfl
              · exact stq (fun E => ex_field rfl Try.underlying90 rfl (by kernel_rfl) (E.v oe10))
              · exact stepq_chain rfl
              intro u18_0 hr
              have zu18_0 := hr.size
              have Cx42 := hid (hr.new (S := (fun k => (k = q3))))
              have Hx43 := hid (Hx41.out.mod hr (by intro h2; omega))
              clear Hx41
              clear hr
              refine QChain.go fun Z act E => ?_
              refine qc_callF (args := #[.slice aoe3 y3.l.length cape3, .int .i64 5]) rfl (wanted_none rfl) rfl Try.func78 (args2 (E.d 1) rfl) (Cut_Dn _ _ y3.l 5 _ ((HSE3.out.mod Cx40.out (fun _ _ h => h)).mod Cx42.out (by intro k h1 h2; have hb := HBT.out k h1; omega)) (by intro k h1; have hb := HBT.out k h1; omega) (by omega)) ?_
              rintro e u18_1a ⟨v', rfl, qpc, hm⟩
              obtain ⟨aop3, capp3, rfl⟩ := qpc.shape
              have zu18_1a := hm.size
              refine ⟨_, rfl, hm.mono (fun _ _ h => h.elim), (fun _ => rfl), ?_⟩
              intro u18_1 hr
              have zu18_1 := hr.size
              have Hx44 := hid ((qpc.widen (R' := (fun k => (New u18_0 u18_1a k))) (E' := (fun k => (R2 k))) (fun _ h => h) (fun _ h => h)).mod hr (by intro k h1 h2; omega) (by intro k h1 h2; have hb := HBT.out k h1; omega))
              have hmr := Mod.after hm hr
              have Hx45 := hid (Hx43.out.mod hmr (by intro h2; omega))
              clear Hx43
              clear hmr
              have Cx46 := hid (Cx42.out.go hm hr)
              clear Cx42 hm hr Z act E qpc
              refine QChain.go fun Z act E => ?_
              refine qc_store rfl (wanted_none rfl) rfl Hx45.out (off := 1) (vs := [Value.slice aop3 (y3.l.take 5).length capp3]) (by kernel_rfl) (by intro u hu; simp at hu; subst hu; rfl) (by show 1 + 1 ≤ 2; decide) (E.d 3) (by rw [show act.eval ((.tmp 73)) = _ from (chv (v := .slice aop3 (y3.l.take 5).length capp3) (E.d 2))]; rfl) ?_
              intro u18_2a qc0 hm
              have qq3 : Cs u18_2a (q3) (((cutTb y3).cells (Value.slice aop3 (y3.l.take 5).length capp3)) : List Value).toArray 90 := by rw [show lay _ 1 _ = (((cutTb y3).cells (Value.slice aop3 (y3.l.take 5).length capp3)) : List Value).toArray from lay_tl y3 (cutTb y3) _ _ rfl] at qc0; exact qc0
              clear qc0
              have zu18_2a := hm.size
              refine ⟨hm.mono (by intro k hk h; omega), (fun _ => rfl), ?_⟩
              intro u18_2 hr
              have zu18_2 := hr.size
              have Hx47 := hid (qq3.mod hr (by intro h2; omega))
              have hmr := hm.two hr
              have Hx48 := hid (Hx44.out.mod hmr (by intro k h1 h2; omega) (by intro k h1 h2; have hb := HBT.out k h1; omega))
              clear Hx44
              clear hmr
              have Cx49 := hid (Cx46.out.goM hm hr (fun _ _ h => h))
              clear Cx46 hm hr Z act E qq3 Hx45
              refine QChain.nil fun vs hl hzz hrows hne => ?_
              obtain ⟨Z, hYZ, hZb, hV⟩ := hzz
              have f2 := fvc hV hl 2
              rw [show vs = [gw vs 0, gw vs 1, gw vs 2, gw vs 3, gw vs 4] from (gw_eta hl).trans rfl]
              have ha0 := HA0.out
              subst ha0
              clear HA0 hV hYZ hZb hsz0 hrows hne oe10
              simp only [putAll, Act.put, List.setIfInBounds_toArray, List.set_cons_zero, List.set_cons_succ, List.set_nil, f2]
              clear hl f2
              have HEL3 := hid (show TbR.rd (fun k => (New u18_0 u18_1a k) ∨ (R2 k)) u18_2 ((cutTb y3).cells (Value.slice aop3 (y3.l.take 5).length capp3)) (cutTb y3) from ⟨_, rfl, HOK3.out, Hx48.out.rd.widen (by intro k h1; rcases h1 with h1 | h1 <;> first | omega | exact h1.elim | exact Or.inl h1 | exact Or.inr (h1))⟩)
              go_upto_region 19 with (fail)
              generalize ha0 : Act.mk _ _ = a0
              have oe8 : a0.eval (.tmp 8) = .slice aol3 ((x.ts.take k3).map cutTb).length capl3 := by rw [← ha0]; rfl
              have oe10 : a0.eval (.tmp 10) = .pointer (some ⟨q3, 0, none⟩) := by rw [← ha0]; rfl
              have hsz0 : a0.tmps.size = 86 := by rw [← ha0]; rfl
              have HA0 := hid ha0
              clear ha0
              refine wp_region_Q1 86 hsz0 [75, 76, 77, 78, 8] (fun k => (New u8_0 wl3 k)) (fun k j => (k = 1 ∧ ((New u8_0 wl3 j)))) (fun _ _ h => h.2) [qi (.slice aol3 ((x.ts.take k3).map cutTb).length capl3), qi (.agg ((cutTb y3).cells (Value.slice aop3 (y3.l.take 5).length capp3)).toArray), qv 0, qv 1, qv 1] ⟨qi_stable, qi_stable, qv_stable, qv_stable, qv_stable, trivial⟩ [2, 3] ⟨?_, ?_, ?_, ?_, ?_, trivial⟩ ?_
              · exact stq (fun E => ex_move rfl ((E.pre 4 8 rfl (by kernel_rfl)).trans oe8))
              · exact stq (fun E => ex_loadA rfl Try.underlying90 rfl (off := 0) (cs := ((cutTb y3).cells (Value.slice aop3 (y3.l.take 5).length capp3))) (by kernel_rfl) (E.v oe10) (Cs.whole (Hx47.out.mod E.m (by intro h2; omega))))
              · exact stepq_chain rfl
              · exact stepq_chain rfl
              · refine stepq_env rfl rfl rfl fun _ _ _ _ _ _ _ _ _ hd _ _ => ?_
                have h3 := hd ⟨3, .data⟩ (by simp) rfl _ rfl
                exact qe_run rfl (wanted_none rfl) (ex_assign rfl rfl) QE.refl h3
              intro u19_0 hr
              have zu19_0 := hr.size
              have Cx50 := hid (hr.new (S := (fun k => (New u8_0 wl3 k))))
              have Hx51 := hid ((((HAL3.out.mod Cx39.out (fun _ _ h => h) (fun _ _ h => h)).mod Cx40.out (fun _ _ h => h) (fun _ _ h => h)).mod Cx49.out (by intro k h1 h2; omega) (by intro k h1 h2; rcases h1 with h1 | h1 <;> first | omega | (have hb := HBT.out k h1; omega))).mod hr (by intro k h1 h2; omega) (by intro k h1 h2; rcases h1 with h1 | h1 <;> first | omega | (have hb := HBT.out k h1; omega)))
              clear HAL3
              clear hr
              refine QChain.go fun Z act E => ?_
              refine qc_buildS (e := 90) (cs := ((cutTb y3).cells (Value.slice aop3 (y3.l.take 5).length capp3))) (zc := [.int .i64 0, .slice none 0 0]) (sz := 2) rfl (wanted_none rfl) rfl Try.underlying58 (by kernel_rfl) rfl (by decide) (by decide) (E.d 1) (TbR.len (HEL3.out.mod Cx50.out (by intro k h1 h2; rcases h1 with h1 | h1 <;> first | omega | (have hb := HBT.out k h1; omega)))) ?_
              intro u19_1a qrow hm
              have zl19_2 := qrow.lt
              have zu19_1a := hm.size
              refine ⟨hm.mono (fun _ _ h => h.elim), (fun _ => rfl), ?_⟩
              intro u19_1 hr
              have zu19_1 := hr.size
              have Hx52 := hid (qrow.mod hr (by intro h2; omega))
              have hmr := Mod.after hm hr
              have Hx53 := hid (Hx51.out.mod hmr (by intro k h1 h2; omega) (by intro k h1 h2; rcases h1 with h1 | h1 <;> first | omega | (have hb := HBT.out k h1; omega)))
              clear Hx51
              clear hmr
              have Cx54 := hid (Cx50.out.go hm hr)
              clear Cx50 hm hr Z act E qrow
              refine QChain.go fun Z act E => ?_
              refine qc_appS (A := TbR) (e := 90) rfl (wanted_none rfl) rfl (.agg #[.int .i64 0, .slice none 0 0]) 32 Try.underlying58 info_Tb (by rfl) (of_decide_eq_true (by kernel_rfl)) (E.d 0) (chv (v := .slice (some ⟨u19_0.heap.size, 0, none⟩) 1 1) (E.d 2)) (Hx53.out) (RdS.single (R := (fun k => (New u18_0 u18_1a k) ∨ (R2 k) ∨ (k = u19_0.heap.size))) Hx52.out ((HEL3.out.mod Cx54.out (by intro k h1 h2; rcases h1 with h1 | h1 <;> first | omega | (have hb := HBT.out k h1; omega))).widen (by intro k h1; rcases h1 with h1 | h1 <;> first | omega | exact h1.elim | exact Or.inl h1 | exact Or.inr (Or.inl h1) | exact Or.inr (Or.inr (h1)))) (by first | exact Or.inr rfl | exact Or.inr (Or.inr rfl) | (right; omega))) (by intro k h1 h2; rcases h1 with h1 | h1 | h1 <;> first | omega | (have hb := HBT.out k h1; omega)) (by rw [HLN3.out]; simp only [List.length_cons, List.length_nil]; omega) (by rw [HLN3.out, maxLen_val]; simp only [List.length_cons, List.length_nil]; omega) ?_
              intro ao16 cap16 u19_2a qacc3 hm
              have zu19_2a := hm.size
              refine ⟨hm.mono (by intro k hk h; omega), (fun _ => rfl), ?_⟩
              intro u19_2 hr
              have zu19_2 := hr.size
              have Hx55 := hid ((qacc3.widen (R' := (fun k => (New u8_0 wl3 k) ∨ (New u19_1 u19_2a k))) (E' := (fun k => (R2 k) ∨ (New u8_0 wl3 k) ∨ (New u18_0 u18_1a k) ∨ (k = u19_0.heap.size))) (fun _ h => h) (by intro k h1; rcases h1 with (h1 | h1) | (h1 | h1 | h1) <;> first | omega | exact h1.elim | exact Or.inl h1 | exact Or.inr (Or.inl h1) | exact Or.inr (Or.inr (Or.inl h1)) | exact Or.inr (Or.inr (Or.inr (h1))))).mod hr (by intro k h1 h2; omega) (by intro k h1 h2; rcases h1 with h1 | h1 | h1 | h1 <;> first | omega | (have hb := HBT.out k h1; omega)))
              have hmr := hm.two hr
              have Hx56 := hid (Hx52.out.mod hmr (by intro h2; omega))
              clear Hx52
              clear hmr
              have Cx57 := hid (Cx54.out.goM hm hr (fun _ _ h => h))
              clear Cx54 hm hr Z act E qacc3 Hx53
              refine QChain.nil fun vs hl hzz hrows hne => ?_
              obtain ⟨Z, hYZ, hZb, hV⟩ := hzz
              have f0 := fvi hV hl 0
              have f2 := fvc hV hl 2
              have f3 := fvc hV hl 3
              have f4 := fvc hV hl 4
              rw [show vs = [gw vs 0, gw vs 1, gw vs 2, gw vs 3, gw vs 4] from (gw_eta hl).trans rfl]
              have ha0 := HA0.out
              subst ha0
              clear HA0 hV hYZ hZb hsz0 hrows hne oe8 oe10
              simp only [putAll, Act.put, List.setIfInBounds_toArray, List.set_cons_zero, List.set_cons_succ, f0, f2, f3, f4]
              clear hl f0 f2 f3 f4
              have hq := Hx55.out
              rw [HE3.out] at hq
              have HQ3 := Lib.hid hq
              clear hq
              go_wp2
              go_roundw
              case rel => exact ⟨k3 + 1, by go_num, by omega, by omega, by omega, (HQ3.out.widen (by intro b h1; omega) (by intro k h1; rcases h1 with h1 | h1 | h1 | h1 <;> first | omega | exact h1.elim | exact Or.inl h1 | exact Or.inr (h1))), ((((HKL3_0.out.mod Cx39.out (fun _ _ h => h)).mod Cx40.out (fun _ _ h => h)).mod Cx49.out (by intro k h1 h2; have hb := HBT.out k h1; omega)).mod Cx57.out (by intro k h1 h2; have hb := HBT.out k h1; omega)), ((((HKL3_1.out.mod Cx39.out (fun _ _ h => h)).mod Cx40.out (fun _ _ h => h)).mod Cx49.out (by intro k h1 h2; have hb := HBT.out k h1; omega)).mod Cx57.out (by intro k h1 h2; have hb := HBT.out k h1; omega)), ((((HKL3_2.out.mod Cx39.out (fun _ _ h => h)).mod Cx40.out (fun _ _ h => h)).mod Cx49.out (by intro k h1 h2; have hb := HBT.out k h1; omega)).mod Cx57.out (by intro k h1 h2; have hb := HBT.out k h1; omega)), ((((HKL3_3.out.mod Cx39.out (fun h => h)).mod Cx40.out (fun h => h)).mod Cx49.out (by intro h2; omega)).mod Cx57.out (by intro h2; omega)), ((((HKL3_4.out.mod Cx39.out (fun h => h)).mod Cx40.out (fun h => h)).mod Cx49.out (by intro h2; omega)).mod Cx57.out (by intro h2; omega)), ((((HKL3_5.out.mod Cx39.out (fun _ _ h => h) (fun _ _ h => h)).mod Cx40.out (fun _ _ h => h) (fun _ _ h => h)).mod Cx49.out (by intro k h1 h2; omega) (by intro k h1 h2; rcases h1 with h1 | h1 <;> first | omega | (have hb := HBT.out k h1; omega))).mod Cx57.out (by intro k h1 h2; omega) (by intro k h1 h2; rcases h1 with h1 | h1 <;> first | omega | (have hb := HBT.out k h1; omega))), ((((HKL3_6.out.mod Cx39.out (fun _ _ h => h) (fun _ _ h => h)).mod Cx40.out (fun _ _ h => h) (fun _ _ h => h)).mod Cx49.out (by intro k h1 h2; omega) (by intro k h1 h2; rcases h1 with h1 | h1 <;> first | omega | (have hb := HBT.out k h1; omega))).mod Cx57.out (by intro k h1 h2; omega) (by intro k h1 h2; rcases h1 with h1 | h1 <;> first | omega | (have hb := HBT.out k h1; omega))), ((((HML3.out.trans Cx39.out (fun _ _ h => h.elim)).trans Cx40.out (fun _ _ h => h.elim)).trans Cx49.out (by intro k h1 h2; omega)).trans Cx57.out (by intro k h1 h2; omega))⟩
              case measure => simp [intOf]; omega
            · skip
              obtain ⟨bA3, hbA3⟩ : ∃ b : Bool, b = decide (((k3 : Nat) : Int) < (x.ts.length : Int)) := ⟨_, rfl⟩
              obtain ⟨bB3, hbB3⟩ : ∃ b : Bool, b = decide (((k3 : Nat) : Int) < 4) := ⟨_, rfl⟩
              go_upto_region 15 with (fail)
              generalize ha0 : Act.mk _ _ = a0
              have oe1 : a0.eval (.tmp 1) = .pointer (some ⟨w.heap.size, 0, none⟩) := by rw [← ha0]; rfl
              have oe9 : a0.eval (.tmp 9) = .int .i64 ((k3 : Nat) : Int) := by rw [← ha0]; rfl
              have hsz0 : a0.tmps.size = 86 := by rw [← ha0]; rfl
              have HA0 := hid ha0
              clear ha0
              refine wp_region_Q0 86 hsz0 [55, 56, 57, 58, 59, 60, 61, 62, 63] [qi (.int .i64 ((k3 : Nat) : Int)), qi (.pointer (some ⟨w.heap.size, 4, none⟩)), qi (.slice ao_ts x.ts.length cap_ts), qi (.int .i64 x.ts.length), qi (.bool bA3), qi (.bool bA3), qc bA3 (qi (.int .i64 ((k3 : Nat) : Int))), qc bA3 (qi (.bool bB3)), qi (.bool (bA3 && bB3))] ⟨qi_stable, qi_stable, qi_stable, qi_stable, qi_stable, qi_stable, (qc_stable qi_stable), (qc_stable qi_stable), qi_stable, trivial⟩ [] ⟨?_, ?_, ?_, ?_, ?_, ?_, ?_, ?_, ?_, trivial⟩ ?_
              · exact stq (fun E => ex_move rfl (E.v oe9))
              · exact stq (fun E => ex_field rfl Try.underlying60 rfl (by kernel_rfl) (E.v oe1))
              · exact stq (fun E => ex_load1 rfl Try.underlying58 rfl (E.d 1) (Cs.lit1 (HKL3_3.out.mod E.m.old (by intro h2; omega)) rfl))
              · exact stq (fun E => ex_lenS rfl (E.d 2) Try.underlying58)
              · exact stq (fun E => ex_binE rfl (E.d 0) (E.d 3) (guard_ints _ _ _ _ _ _) (run_lss_i _ _ _ Try.underlying3) (congrArg Value.bool hbA3.symm))
              · exact stq (fun E => ex_move rfl (E.d 4))
              · refine stepq_env rfl rfl rfl fun _ _ _ _ _ _ _ hout hsz hd _ _ => ?_
                have h5 := hd ⟨5, .guard⟩ (by simp) rfl _ rfl
                refine qe_guard rfl (b := bA3) ((wanted_of rfl rfl (hsz 60 (by decide)) h5).trans (by simp)) rfl (fun hb l' hl' => ?_)
                refine qe_run rfl ((wanted_of rfl rfl (hsz 60 (by decide)) h5).trans (by first | exact hb | simpa using hb)) (ex_move rfl ((hout 9 (by decide)).trans oe9)) QE.refl ?_
                rw [hl']; rfl
              · refine stepq_env rfl rfl rfl fun _ _ _ _ _ _ _ _ hsz hd _ _ => ?_
                have h5 := hd ⟨5, .guard⟩ (by simp) rfl _ rfl
                have h6 := hd ⟨6, .data⟩ (by simp) rfl _ rfl
                refine qe_guard rfl (b := bA3) ((wanted_of rfl rfl (hsz 60 (by decide)) h5).trans (by simp)) rfl (fun hb l' hl' => ?_)
                refine qe_run rfl ((wanted_of rfl rfl (hsz 60 (by decide)) h5).trans (by first | exact hb | simpa using hb)) (ex_binE rfl (h6.1 hb) rfl (guard_ints _ _ _ _ _ _) (run_lss_i _ _ _ Try.underlying3) (congrArg Value.bool hbB3.symm)) QE.refl ?_
                rw [hl']; rfl
              · exact stq (fun E => ex_pickE rfl (E.d 5) rfl rfl (and_val fun hb => (E.d 7).1 hb))
              intro u15_0 hr
              have zu15_0 := hr.size
              have Cx58 := hid (hr.new (S := (fun _ => False)))
              clear hr
              refine QChain.nil fun vs hl hzz hrows hne => ?_
              obtain ⟨Z, hYZ, hZb, hV⟩ := hzz
              have f0 := fvi hV hl 0
              have f3 := fvi hV hl 3
              have f5 := fvi hV hl 5
              have f8 := fvi hV hl 8
              rw [show vs = [gw vs 0, gw vs 1, gw vs 2, gw vs 3, gw vs 4, gw vs 5, gw vs 6, gw vs 7, gw vs 8] from (gw_eta hl).trans rfl]
              have ha0 := HA0.out
              subst ha0
              clear HA0 hV hYZ hZb hsz0 hrows hne oe1 oe9
              simp only [putAll, Act.put, List.setIfInBounds_toArray, List.set_cons_zero, List.set_cons_succ, f0, f3, f5, f8]
              clear hl f0 f3 f5 f8
              rw [show (bA3 && bB3) = false by rw [hbA3, hbB3, Bool.and_eq_false_iff, decide_eq_false_iff_not, decide_eq_false_iff_not]; omega]
              have HTK3 := hid (show x.ts.take k3 = x.ts.take 4 from take_two (by omega) (by omega))
              go_upto_region 20 with (fail)
              generalize ha0 : Act.mk _ _ = a0
              have oe1 : a0.eval (.tmp 1) = .pointer (some ⟨w.heap.size, 0, none⟩) := by rw [← ha0]; rfl
              have oe3 : a0.eval (.tmp 3) = .slice aol1 ((x.ps.take k1).map cutPm).length capl1 := by rw [← ha0]; rfl
              have oe5 : a0.eval (.tmp 5) = .slice aol2 ((x.os.take k2).map cutOp).length capl2 := by rw [← ha0]; rfl
              have oe8 : a0.eval (.tmp 8) = .slice aol3 ((x.ts.take k3).map cutTb).length capl3 := by rw [← ha0]; rfl
              have hsz0 : a0.tmps.size = 86 := by rw [← ha0]; rfl
              have HA0 := hid ha0
              clear ha0
              refine wp_region_Q1 86 hsz0 [79, 80, 81, 82, 90, 83, 92, 84, 94] (fun k => (k = w.heap.size)) (fun k j => (k = 0 ∧ ((j = w.heap.size))) ∨ (k = 1 ∧ ((j = w.heap.size))) ∨ (k = 2 ∧ ((j = w.heap.size)))) (by intro k j h; (try dsimp only at h ⊢); omega) [qi (.slice aol1 ((x.ps.take k1).map cutPm).length capl1), qi (.slice aol2 ((x.os.take k2).map cutOp).length capl2), qi (.slice aol3 ((x.ts.take k3).map cutTb).length capl3), qi (.pointer (some ⟨w.heap.size, 2, none⟩)), qv 0, qi (.pointer (some ⟨w.heap.size, 3, none⟩)), qv 1, qi (.pointer (some ⟨w.heap.size, 4, none⟩)), qv 2] ⟨qi_stable, qi_stable, qi_stable, qi_stable, qv_stable, qi_stable, qv_stable, qi_stable, qv_stable, trivial⟩ [4, 6, 8] ⟨?_, ?_, ?_, ?_, ?_, ?_, ?_, ?_, ?_, trivial⟩ ?_
              · exact stq (fun E => ex_move rfl (E.v oe3))
              · exact stq (fun E => ex_move rfl (E.v oe5))
              · exact stq (fun E => ex_move rfl (E.v oe8))
              · exact stq (fun E => ex_field rfl Try.underlying60 rfl (by kernel_rfl) (E.v oe1))
              · exact stepq_chain rfl
              · exact stq (fun E => ex_field rfl Try.underlying60 rfl (by kernel_rfl) (E.v oe1))
              · exact stepq_chain rfl
              · exact stq (fun E => ex_field rfl Try.underlying60 rfl (by kernel_rfl) (E.v oe1))
              · exact stepq_chain rfl
              intro u20_0 hr
              have zu20_0 := hr.size
              have Cx59 := hid (hr.new (S := (fun k => (k = w.heap.size))))
              have Hx60 := hid ((HKL3_3.out.mod Cx58.out (fun h => h)).mod hr (by intro h2; omega))
              clear HKL3_3
              clear hr
              refine QChain.go fun Z act E => ?_
              refine qc_store rfl (wanted_none rfl) rfl Hx60.out (off := 2) (vs := [Value.slice aol1 ((x.ps.take k1).map cutPm).length capl1]) (by kernel_rfl) (by intro u hu; simp at hu; subst hu; rfl) (by simp) (E.d 3) (by rw [show act.eval ((.tmp 79)) = _ from (E.d 0)]; rfl) ?_
              intro u20_1a qc0 hm
              have qB1 : Cs u20_1a (w.heap.size) #[.int .i64 x.ep, .int .u64 (x.tm : Nat), Value.slice aol1 ((x.ps.take k1).map cutPm).length capl1, Value.slice ao_os x.os.length cap_os, Value.slice ao_ts x.ts.length cap_ts] 60 := by rw [show lay _ 2 _ = #[.int .i64 x.ep, .int .u64 (x.tm : Nat), Value.slice aol1 ((x.ps.take k1).map cutPm).length capl1, Value.slice ao_os x.os.length cap_os, Value.slice ao_ts x.ts.length cap_ts] from rfl] at qc0; exact qc0
              clear qc0
              have zu20_1a := hm.size
              refine ⟨hm.mono (by intro k hk h; omega), (fun _ => rfl), ?_⟩
              intro u20_1 hr
              have zu20_1 := hr.size
              have Hx61 := hid (qB1.mod hr (by intro h2; omega))
              have Cx62 := hid (Cx59.out.goM hm hr (fun _ _ h => h))
              clear Cx59 hm hr Z act E qB1 Hx60
              refine QChain.go fun Z act E => ?_
              refine qc_store rfl (wanted_none rfl) rfl Hx61.out (off := 3) (vs := [Value.slice aol2 ((x.os.take k2).map cutOp).length capl2]) (by kernel_rfl) (by intro u hu; simp at hu; subst hu; rfl) (by simp) (E.d 5) (by rw [show act.eval ((.tmp 80)) = _ from (E.d 1)]; rfl) ?_
              intro u20_2a qc0 hm
              have qB1 : Cs u20_2a (w.heap.size) #[.int .i64 x.ep, .int .u64 (x.tm : Nat), Value.slice aol1 ((x.ps.take k1).map cutPm).length capl1, Value.slice aol2 ((x.os.take k2).map cutOp).length capl2, Value.slice ao_ts x.ts.length cap_ts] 60 := by rw [show lay _ 3 _ = #[.int .i64 x.ep, .int .u64 (x.tm : Nat), Value.slice aol1 ((x.ps.take k1).map cutPm).length capl1, Value.slice aol2 ((x.os.take k2).map cutOp).length capl2, Value.slice ao_ts x.ts.length cap_ts] from rfl] at qc0; exact qc0
              clear qc0
              have zu20_2a := hm.size
              refine ⟨hm.mono (by intro k hk h; omega), (fun _ => rfl), ?_⟩
              intro u20_2 hr
              have zu20_2 := hr.size
              have Hx63 := hid (qB1.mod hr (by intro h2; omega))
              have Cx64 := hid (Cx62.out.goM hm hr (fun _ _ h => h))
              clear Cx62 hm hr Z act E qB1 Hx61
              refine QChain.go fun Z act E => ?_
              refine qc_store rfl (wanted_none rfl) rfl Hx63.out (off := 4) (vs := [Value.slice aol3 ((x.ts.take k3).map cutTb).length capl3]) (by kernel_rfl) (by intro u hu; simp at hu; subst hu; rfl) (by simp) (E.d 7) (by rw [show act.eval ((.tmp 81)) = _ from (E.d 2)]; rfl) ?_
              intro u20_3a qc0 hm
              have qB1 : Cs u20_3a (w.heap.size) #[.int .i64 x.ep, .int .u64 (x.tm : Nat), Value.slice aol1 ((x.ps.take k1).map cutPm).length capl1, Value.slice aol2 ((x.os.take k2).map cutOp).length capl2, Value.slice aol3 ((x.ts.take k3).map cutTb).length capl3] 60 := by rw [show lay _ 4 _ = #[.int .i64 x.ep, .int .u64 (x.tm : Nat), Value.slice aol1 ((x.ps.take k1).map cutPm).length capl1, Value.slice aol2 ((x.os.take k2).map cutOp).length capl2, Value.slice aol3 ((x.ts.take k3).map cutTb).length capl3] from rfl] at qc0; exact qc0
              clear qc0
              have zu20_3a := hm.size
              refine ⟨hm.mono (by intro k hk h; omega), (fun _ => rfl), ?_⟩
              intro u20_3 hr
              have zu20_3 := hr.size
              have Hx65 := hid (qB1.mod hr (by intro h2; omega))
              have Cx66 := hid (Cx64.out.goM hm hr (fun _ _ h => h))
              clear Cx64 hm hr Z act E qB1 Hx63
              refine QChain.nil fun vs hl hzz hrows hne => ?_
              obtain ⟨Z, hYZ, hZb, hV⟩ := hzz
              have f0 := fvi hV hl 0
              have f1 := fvi hV hl 1
              have f2 := fvi hV hl 2
              rw [show vs = [gw vs 0, gw vs 1, gw vs 2, gw vs 3, gw vs 4, gw vs 5, gw vs 6, gw vs 7, gw vs 8] from (gw_eta hl).trans rfl]
              have ha0 := HA0.out
              subst ha0
              clear HA0 hV hYZ hZb hsz0 hrows hne oe1 oe3 oe5 oe8
              simp only [putAll, Act.put, List.setIfInBounds_toArray, List.set_cons_zero, List.set_cons_succ, List.set_nil, f0, f1, f2]
              clear hl f0 f1 f2
              go_upto_region 21 with (fail)
              generalize ha0 : Act.mk _ _ = a0
              have oe1 : a0.eval (.tmp 1) = .pointer (some ⟨w.heap.size, 0, none⟩) := by rw [← ha0]; rfl
              have oe2 : a0.eval (.tmp 2) = .pointer (some ⟨w.heap.size + 1, 0, none⟩) := by rw [← ha0]; rfl
              have hsz0 : a0.tmps.size = 86 := by rw [← ha0]; rfl
              have HA0 := hid ha0
              clear ha0
              refine wp_region_Q1 86 hsz0 [85, 87] (fun k => (k = w.heap.size + 1)) (fun k j => (k = 0 ∧ ((j = w.heap.size + 1)))) (fun _ _ h => h.2) [qi (.agg #[.int .i64 x.ep, .int .u64 (x.tm : Nat), Value.slice aol1 ((x.ps.take k1).map cutPm).length capl1, Value.slice aol2 ((x.os.take k2).map cutOp).length capl2, Value.slice aol3 ((x.ts.take k3).map cutTb).length capl3]), qv 0] ⟨qi_stable, qv_stable, trivial⟩ [1] ⟨?_, ?_, trivial⟩ ?_
              · exact stq (fun E => ex_loadA rfl Try.underlying60 rfl (off := 0) (cs := [.int .i64 x.ep, .int .u64 (x.tm : Nat), Value.slice aol1 ((x.ps.take k1).map cutPm).length capl1, Value.slice aol2 ((x.os.take k2).map cutOp).length capl2, Value.slice aol3 ((x.ts.take k3).map cutTb).length capl3]) (by kernel_rfl) (E.v oe1) (Cs.whole (Hx65.out.mod E.m (by intro h2; omega))))
              · exact stepq_chain rfl
              intro u21_0 hr
              have zu21_0 := hr.size
              have Cx67 := hid (hr.new (S := (fun k => (k = w.heap.size + 1))))
              have Hx68 := hid (((HKL3_4.out.mod Cx58.out (fun h => h)).mod Cx66.out (by intro h2; omega)).mod hr (by intro h2; omega))
              clear HKL3_4
              clear hr
              refine QChain.go fun Z act E => ?_
              refine qc_store rfl (wanted_none rfl) rfl Hx68.out (off := 0) (vs := [.int .i64 x.ep, .int .u64 (x.tm : Nat), Value.slice aol1 ((x.ps.take k1).map cutPm).length capl1, Value.slice aol2 ((x.os.take k2).map cutOp).length capl2, Value.slice aol3 ((x.ts.take k3).map cutTb).length capl3]) (by kernel_rfl) (by intro u hu; simp at hu; rcases hu with rfl | rfl | rfl | rfl | rfl <;> rfl) (by simp) (E.v oe2) (by rw [show act.eval ((.tmp 85)) = _ from (E.d 0)]; rfl) ?_
              intro u21_1a qc0 hm
              have qB2 : Cs u21_1a (w.heap.size + 1) #[.int .i64 x.ep, .int .u64 (x.tm : Nat), Value.slice aol1 ((x.ps.take k1).map cutPm).length capl1, Value.slice aol2 ((x.os.take k2).map cutOp).length capl2, Value.slice aol3 ((x.ts.take k3).map cutTb).length capl3] 60 := by rw [show lay _ 0 _ = #[.int .i64 x.ep, .int .u64 (x.tm : Nat), Value.slice aol1 ((x.ps.take k1).map cutPm).length capl1, Value.slice aol2 ((x.os.take k2).map cutOp).length capl2, Value.slice aol3 ((x.ts.take k3).map cutTb).length capl3] from rfl] at qc0; exact qc0
              clear qc0
              have zu21_1a := hm.size
              refine ⟨hm.mono (by intro k hk h; omega), (fun _ => rfl), ?_⟩
              intro u21_1 hr
              have zu21_1 := hr.size
              have Hx69 := hid (qB2.mod hr (by intro h2; omega))
              have Cx70 := hid (Cx67.out.goM hm hr (fun _ _ h => h))
              clear Cx67 hm hr Z act E qB2 Hx68
              refine QChain.nil fun vs hl hzz hrows hne => ?_
              obtain ⟨Z, hYZ, hZb, hV⟩ := hzz
              rw [show vs = [gw vs 0, gw vs 1] from (gw_eta hl).trans rfl]
              have ha0 := HA0.out
              subst ha0
              clear HA0 hV hYZ hZb hsz0 hrows hne oe1 oe2
              simp only [putAll, Act.put, List.setIfInBounds_toArray, List.set_cons_zero, List.set_cons_succ, List.set_nil]
              clear hl
              go_wp2
              refine bodyPost_ret (results_cellA rfl _ _ (w.heap.size + 1) ([.int .i64 x.ep, .int .u64 (x.tm : Nat), Value.slice aol1 ((x.ps.take k1).map cutPm).length capl1, Value.slice aol2 ((x.os.take k2).map cutOp).length capl2, Value.slice aol3 ((x.ts.take k3).map cutTb).length capl3]) rfl (fun k u hu => by rw [Hx69.out.cell]; simpa using hu) Try.underlying60 rfl (by kernel_rfl)) rfl ⟨_, rfl, ⟨_, _, _, rfl, HOK.out, ?_, ?_, ?_⟩, (((HML3.out.trans Cx58.out (fun _ _ h => h.elim)).trans Cx66.out (by intro k h1 h2; omega)).trans Cx70.out (by intro k h1 h2; omega))⟩
              · rw [show (cutBa x).ps = (x.ps.take k1).map cutPm from congrArg (List.map cutPm) HTK1.out.symm]
                refine ((((HKL3_5.out.mod Cx58.out (fun _ _ h => h) (fun _ _ h => h)).mod Cx66.out (by intro k h1 h2; omega) (by intro k h1 h2; rcases h1 with h1 | h1 <;> first | omega | (have hb := HBT.out k h1; omega))).mod Cx70.out (by intro k h1 h2; omega) (by intro k h1 h2; rcases h1 with h1 | h1 <;> first | omega | (have hb := HBT.out k h1; omega))).rd).widen ?_
                intro k h
                (try dsimp only at h ⊢)
                rcases h with h | h | h
                · right; omega
                · exact Or.inl h
                · right; omega
              · rw [show (cutBa x).os = (x.os.take k2).map cutOp from congrArg (List.map cutOp) HTK2.out.symm]
                refine ((((HKL3_6.out.mod Cx58.out (fun _ _ h => h) (fun _ _ h => h)).mod Cx66.out (by intro k h1 h2; omega) (by intro k h1 h2; rcases h1 with h1 | h1 <;> first | omega | (have hb := HBT.out k h1; omega))).mod Cx70.out (by intro k h1 h2; omega) (by intro k h1 h2; rcases h1 with h1 | h1 <;> first | omega | (have hb := HBT.out k h1; omega))).rd).widen ?_
                intro k h
                (try dsimp only at h ⊢)
                rcases h with h | h | h
                · right; omega
                · exact Or.inl h
                · right; omega
              · rw [show (cutBa x).ts = (x.ts.take k3).map cutTb from congrArg (List.map cutTb) HTK3.out.symm]
                refine ((((HAL3.out.mod Cx58.out (fun _ _ h => h) (fun _ _ h => h)).mod Cx66.out (by intro k h1 h2; omega) (by intro k h1 h2; rcases h1 with h1 | h1 <;> first | omega | (have hb := HBT.out k h1; omega))).mod Cx70.out (by intro k h1 h2; omega) (by intro k h1 h2; rcases h1 with h1 | h1 <;> first | omega | (have hb := HBT.out k h1; omega))).rd).widen ?_
                intro k h
                (try dsimp only at h ⊢)
                rcases h with h | h | h
                · right; omega
                · exact Or.inl h
                · right; omega
end Go.Proofs.Ytknpapcfhnhheaa
