/- Texts that are built one behind the other: XPt1, XGp, XRead2, XRead3, XRead4, XRead5, XSeg, XGl, XNa, XNb, XNc, XNd, XPt2, XWt1, XRf1, XRf2, XRf3, XSha6, XSha7, XVal5, XSha8, XRf4, XLens, XWbp. No condition. -/
import Derived.Test.YtknpapcfhnhheaaMl2
import Derived.Lib.BytesEntry
import Derived.Laws.Externs
import Derived.Deep.Cut
set_option maxRecDepth 100000
set_option linter.unusedVariables false
/- Small parts of messages, put as bytes. -/
namespace Go.Proofs.Ytknpapcfhnhheaa
open Go Go.RowKit Go.Gv


/-- a signature's bytes, a name's, those of a list of things, and so on -/
def sigB (a b : Int) : List Int := encI a ++ encI b
def nameB (a b : Int) : List Int := encI a ++ encI b
def listB {α : Type} (f : α → List Int) (l : List α) : List Int := encI l.length ++ (l.map f).flatten
def cmB (x : Cm) : List Int := nameB x.cl x.sq ++ (x.h ++ (encI x.ln ++ sigB x.sb x.mr))
def stB (x : St) : List Int := encI x.rp ++ (nameB x.cl x.sq ++ (x.h ++ (encN x.tm ++ sigB x.sb x.mr)))
def ceB (x : Ce) : List Int := cmB x.c ++ listB stB x.l
def pmB (x : Pm) : List Int := encI x.rp ++ (encI x.ep ++ (encN x.fl ++ (listB ceB x.l ++ sigB x.sb x.mr)))
def opB (x : Op) : List Int := encI x.ix ++ ((encN x.pl.length ++ x.pl) ++ x.nc)
def dnB (x : Dn) : List Int := encI x.rp ++ (encI x.ix ++ sigB x.sb x.mr)
def tbB (x : Tb) : List Int := encI x.ix ++ listB dnB x.l
def baB (x : Ba) : List Int := encI x.ep ++ (encN x.tm ++ (listB pmB x.ps ++ (listB opB x.os ++ listB tbB x.ts)))
theorem WInt_Q {R : Nat → Prop} {g : Nat} {n : Int} {bs : List Int} {w : World} (hW : WrR R 900000 w g bs) (hn : I64 n) (hl : (bs ++ encI n).length ≤ 900000) :
    Calls Try.prog 64 #[.pointer (some ⟨g, 0, none⟩), .int .i64 n] w fun e w' => e = .returned (.pointer (some ⟨g, 0, none⟩)) ∧ WrR (fun k => R k ∨ New w w' k) 900000 w' g (bs ++ encI n) ∧ Mod R w w' := by
  obtain ⟨v, h1, h2, h3, h4⟩ := hW
  exact (WInt_any g n v bs w h1 hn (by unfold Room; omega)).mono fun _ _ ⟨he, h⟩ => ⟨he, WrTo_R _ h2 h3 h hl⟩
theorem WNum_Q {R : Nat → Prop} {g : Nat} {n : Nat} {bs : List Int} {w : World} (hW : WrR R 900000 w g bs) (hn : n < U64) (hl : (bs ++ encN n).length ≤ 900000) :
    Calls Try.prog 67 #[.pointer (some ⟨g, 0, none⟩), .int .u64 n] w fun e w' => e = .returned (.pointer (some ⟨g, 0, none⟩)) ∧ WrR (fun k => R k ∨ New w w' k) 900000 w' g (bs ++ encN n) ∧ Mod R w w' := by
  obtain ⟨v, h1, h2, h3, h4⟩ := hW
  exact (Num_any g n v bs w h1 hn (by unfold Room; omega)).mono fun _ _ ⟨he, h⟩ => ⟨he, WrTo_R _ h2 h3 h hl⟩
theorem WHash_Q {R : Nat → Prop} {g : Nat} {h bs : List Int} {w : World} (hW : WrR R 900000 w g bs) (hh : HK h) (hl : (bs ++ h).length ≤ 900000) :
    Calls Try.prog 66 #[.pointer (some ⟨g, 0, none⟩), hv h] w fun e w' => e = .returned (.pointer (some ⟨g, 0, none⟩)) ∧ WrR (fun k => R k ∨ New w w' k) 900000 w' g (bs ++ h) ∧ Mod R w w' := by
  obtain ⟨v, h1, h2, h3, h4⟩ := hW
  exact (WHash_any g v bs h w h1 hh.1 hh.2 (by unfold Room; omega)).mono fun _ _ ⟨he, h⟩ => ⟨he, WrTo_R _ h2 h3 h hl⟩
theorem WRow_Q {R R' : Nat → Prop} {M g : Nat} {bs : List Int} {v2 : Value} {cs : List Int} {w : World} (hW : WrR R 900000 w g bs) (hr : RdR R' M w v2 cs) (hs : ∀ k, R' k → R k → False) (hl : (bs ++ (encN cs.length ++ cs)).length ≤ 900000) :
    Calls Try.prog 107 #[.pointer (some ⟨g, 0, none⟩), v2] w fun e w' => e = .returned (.pointer (some ⟨g, 0, none⟩)) ∧ WrR (fun k => R k ∨ New w w' k) 900000 w' g (bs ++ (encN cs.length ++ cs)) ∧ Mod R w w' := by
  obtain ⟨v, h1, h2, h3, h4⟩ := hW
  obtain ⟨ao, cap, rfl⟩ := hr.shape
  have hlc : cs.length ≤ 900000 := by simp only [List.length_append] at hl; omega
  refine (WRow_any g v bs ao cap cs w h1 hr.1 ?_ (by unfold Room; omega)).mono fun _ _ ⟨he, h⟩ => ⟨he, WrTo_R _ h2 h3 h hl⟩
  intro h0 k hg hk
  rcases hk with rfl | hk
  · exact hs _ (hr.2.1 h0 _ hg) h2
  · exact hs _ (hr.2.1 h0 _ hg) (h3 k hk.symm)
/-- a function that puts things of a kind -/
def Puts {α : Type} (A : Rep α) (F : FuncId) (f : α → List Int) : Prop := ∀ (R R2 : Nat → Prop) (g : Nat) (bs : List Int) (cs : List Value) (x : α) (w : World), WrR R 900000 w g bs → (∀ k, R k → k < w.heap.size) → A.rd R2 w cs x → (∀ k, R2 k → k < w.heap.size) → (∀ k, R k → R2 k → False) → (bs ++ f x).length ≤ 900000 →
  Calls Try.prog F #[.pointer (some ⟨g, 0, none⟩), .agg cs.toArray] w fun e w' => e = .returned (.tuple #[]) ∧ WrR (fun k => R k ∨ New w w' k) 900000 w' g (bs ++ f x) ∧ Mod R w w'
/-- one that puts lists of them -/
def PutsL {α : Type} (A : Rep α) (F Fe : FuncId) (f : α → List Int) : Prop := ∀ (R R2 : Nat → Prop) (g : Nat) (bs : List Int) (v : Value) (l : List α) (w : World), WrR R 900000 w g bs → (∀ k, R k → k < w.heap.size) → RdS A R2 w v l → (∀ k, R2 k → k < w.heap.size) → (∀ k, R k → R2 k → False) → (bs ++ listB f l).length ≤ 900000 →
  Calls Try.prog F #[.pointer (some ⟨g, 0, none⟩), v, .func (.func Fe) #[] #[]] w fun e w' => e = .returned (.tuple #[]) ∧ WrR (fun k => R k ∨ New w w' k) 900000 w' g (bs ++ listB f l) ∧ Mod R w w'
theorem put_len {α : Type} (f : α → List Int) (bs : List Int) (n : List Int) (l : List α) (k : Nat) : (bs ++ (n ++ ((l.take k).map f).flatten)).length ≤ (bs ++ (n ++ (l.map f).flatten)).length := by
  have h : (l.map f).flatten = ((l.take k).map f).flatten ++ ((l.drop k).map f).flatten := by rw [← List.flatten_append, ← List.map_append, List.take_append_drop]
  rw [h]
  simp only [List.length_append]
  omega
set_option maxHeartbeats 2000000 in
theorem PutSig_Q {R : Nat → Prop} {g : Nat} {bs : List Int} {a b : Int} {w : World} (hW : WrR R 900000 w g bs) (hB : ∀ k, R k → k < w.heap.size) (ha : I64 a) (hb : I64 b) (hl : (bs ++ sigB a b).length ≤ 900000) :
    Calls Try.prog 142 #[.pointer (some ⟨g, 0, none⟩), .agg #[.int .i64 a, .int .i64 b]] w fun e w' => e = .returned (.tuple #[]) ∧ WrR (fun k => R k ∨ New w w' k) 900000 w' g (bs ++ sigB a b) ∧ Mod R w w' := by
  have HW := Lib.hid hW
  have HBR := Lib.hid hB
  have HL := hid (show (bs ++ (encI a ++ encI b)).length ≤ 900000 from hl)
  have HA := Lib.hid ha
  have HB := Lib.hid hb
  clear hW hB hl ha hb
  change Calls _ _ #[.pointer (some ⟨g, 0, none⟩), .agg #[.int .i64 a, .int .i64 b]] _ _
  go_enter Try.func142, Try.ntmps142
  go_upto_region 1 with (fail)
  obtain ⟨w1, hw1⟩ : ∃ zz, zz = (w.alloc (.cells #[.int .i64 a, .int .i64 b] 28)) := ⟨_, rfl⟩
  change Code.wp _ _ _ _ (w.alloc (.cells #[.int .i64 a, .int .i64 b] 28))
  rw [← hw1]
  have HB3 := hid (show Cs w1 (w.heap.size) #[.int .i64 a, .int .i64 b] 28 by rw [hw1]; exact Cs.new _ _ _)
  have hm : Mod (fun _ => False) w w1 := by rw [hw1]; exact (Mod.refl _ _).alloc _
  have HM0 := hid (show Mod (fun k => (R k)) w w1 from hm.mono (fun _ _ h => h.elim))
  have hs1 : w1.heap.size = w.heap.size + 1 := by rw [hw1]; simp
  have Hx1 := hid (HW.out.mod hm (fun _ _ h => h))
  clear HW
  clear hw1 hm
  go_upto_region 1 with (fail)
  generalize ha0 : Act.mk _ _ = a0
  have oe0 : a0.eval (.tmp 0) = .pointer (some ⟨g, 0, none⟩) := by rw [← ha0]; rfl
  have oe3 : a0.eval (.tmp 3) = .pointer (some ⟨w.heap.size, 0, none⟩) := by rw [← ha0]; rfl
  have hsz0 : a0.tmps.size = 11 := by rw [← ha0]; rfl
  have HA0 := hid ha0
  clear ha0
  refine wp_region_Q1 11 hsz0 [4, 5, 6, 7, 8, 9, 10] (fun k => (R k)) (fun k j => (k = 0 ∧ ((R j))) ∨ (k = 1 ∧ ((R j)))) (by intro k j h; (try dsimp only at h ⊢); rcases h with ⟨-, h⟩ | ⟨-, h⟩; (exact h); (exact h)) [qi (.pointer (some ⟨g, 0, none⟩)), qi (.pointer (some ⟨w.heap.size, 0, none⟩)), qi (.int .i64 a), qi (.pointer (some ⟨g, 0, none⟩)), qi (.pointer (some ⟨w.heap.size, 1, none⟩)), qi (.int .i64 b), qi (.pointer (some ⟨g, 0, none⟩))] ⟨qi_stable, qi_stable, qi_stable, qi_stable, qi_stable, qi_stable, qi_stable, trivial⟩ [3, 6] ⟨?_, ?_, ?_, ?_, ?_, ?_, ?_, trivial⟩ ?_
  · exact stq (fun E => ex_move rfl (E.v oe0))
  · exact stq (fun E => ex_field rfl Try.underlying28 rfl (by kernel_rfl) (E.v oe3))
  · exact stq (fun E => ex_load1 rfl Try.underlying3 rfl (E.d 1) (Cs.lit1 (HB3.out.mod E.m (by intro h2; rcases h2 with ⟨h0, h2⟩ | h2 <;> first | omega | (have hb := HBR.out _ h2; omega))) rfl))
  · exact stepq_chain rfl
  · exact stq (fun E => ex_field rfl Try.underlying28 rfl (by kernel_rfl) (E.v oe3))
  · exact stq (fun E => ex_load1 rfl Try.underlying3 rfl (E.d 4) (Cs.lit1 (HB3.out.mod E.m (by intro h2; rcases h2 with ⟨h0, h2⟩ | h2 <;> first | omega | (have hb := HBR.out _ h2; omega))) rfl))
  · exact stepq_chain rfl
  intro u1_0 hr
  have zu1_0 := hr.size
  have Cx2 := hid (hr.new (S := (fun k => (R k))))
  have Hx3 := hid (Hx1.out.mod hr (by intro k h1 h2; have hb := HBR.out k h1; omega))
  clear Hx1
  clear hr
  refine QChain.go fun Z act E => ?_
  refine qc_callF (args := #[.pointer (some ⟨g, 0, none⟩), .int .i64 a]) rfl (wanted_none rfl) rfl Try.func64 (args2 (E.d 0) (E.d 2)) (WInt_Q Hx3.out HA.out (by have := HL.out; simp only [List.length_append] at this ⊢; omega)) ?_
  rintro e u1_1a ⟨rfl, qwr, hm⟩
  have zu1_1a := hm.size
  refine ⟨_, rfl, hm.mono (by intro k hk h; first | omega | exact Or.inl ⟨(by have hb := HBR.out k h; omega), Or.inl ⟨rfl, h⟩⟩), (fun _ => rfl), ?_⟩
  intro u1_1 hr
  have zu1_1 := hr.size
  have Hx4 := hid ((qwr.widen (R' := (fun k => (R k) ∨ (New u1_0 u1_1a k))) (fun _ h => h) (Nat.le_refl _)).mod hr (by intro k h1 h2; rcases h1 with h1 | h1 <;> first | omega | (have hb := HBR.out k h1; omega)))
  have Cx5 := hid (Cx2.out.goM hm hr (fun _ _ h => h))
  clear Cx2 hm hr Z act E qwr Hx3
  refine QChain.go fun Z act E => ?_
  refine qc_callF (args := #[.pointer (some ⟨g, 0, none⟩), .int .i64 b]) rfl (wanted_none rfl) rfl Try.func64 (args2 (E.d 3) (E.d 5)) (WInt_Q Hx4.out HB.out (by have := HL.out; simp only [List.length_append] at this ⊢; omega)) ?_
  rintro e u1_2a ⟨rfl, qwr, hm⟩
  have zu1_2a := hm.size
  refine ⟨_, rfl, hm.mono (by intro k hk h; rcases h with h | h <;> first | omega | exact Or.inl ⟨(by have hb := HBR.out k h; omega), Or.inr (⟨rfl, h⟩)⟩), (fun _ => rfl), ?_⟩
  intro u1_2 hr
  have zu1_2 := hr.size
  have Hx6 := hid ((qwr.widen (R' := (fun k => (R k) ∨ (New u1_0 u1_1a k) ∨ (New u1_1 u1_2a k))) (by intro k h1; simp only [or_assoc] at h1 ⊢; exact h1) (Nat.le_refl _)).mod hr (by intro k h1 h2; rcases h1 with h1 | h1 | h1 <;> first | omega | (have hb := HBR.out k h1; omega)))
  have Cx7 := hid (Cx5.out.goM hm hr (by intro k h0 h2; rcases h2 with h2 | h2 <;> first | omega | exact h2))
  clear Cx5 hm hr Z act E qwr Hx4
  refine QChain.nil fun vs hl hzz hrows hne => ?_
  obtain ⟨Z, hYZ, hZb, hV⟩ := hzz
  have f0 := fvi hV hl 0
  have f3 := fvi hV hl 3
  have f6 := fvi hV hl 6
  rw [show vs = [gw vs 0, gw vs 1, gw vs 2, gw vs 3, gw vs 4, gw vs 5, gw vs 6] from (gw_eta hl).trans rfl]
  have ha0 := HA0.out
  subst ha0
  clear HA0 hV hYZ hZb hsz0 hrows hne oe0 oe3
  simp only [putAll, Act.put, List.setIfInBounds_toArray, List.set_cons_zero, List.set_cons_succ, f0, f3, f6]
  clear hl f0 f3 f6
  go_wp2
  go_end0
  have hq := (Hx6.out.widen (R' := (fun k => R k ∨ New w u1_2 k)) (by intro k h1; rcases h1 with h1 | h1 | h1 <;> first | exact Or.inl h1 | (right; omega)) (Nat.le_refl _))
  simp only [List.append_assoc] at hq
  exact ⟨rfl, by simpa only [sigB, List.append_assoc] using hq, (HM0.out.trans Cx7.out (fun _ _ h => h))⟩
set_option maxHeartbeats 2000000 in
theorem PutName_Q {R : Nat → Prop} {g : Nat} {bs : List Int} {a b : Int} {w : World} (hW : WrR R 900000 w g bs) (hB : ∀ k, R k → k < w.heap.size) (ha : I64 a) (hb : I64 b) (hl : (bs ++ nameB a b).length ≤ 900000) :
    Calls Try.prog 65 #[.pointer (some ⟨g, 0, none⟩), .agg #[.int .i64 a, .int .i64 b]] w fun e w' => e = .returned (.tuple #[]) ∧ WrR (fun k => R k ∨ New w w' k) 900000 w' g (bs ++ nameB a b) ∧ Mod R w w' := by
  have HW := Lib.hid hW
  have HBR := Lib.hid hB
  have HL := hid (show (bs ++ (encI a ++ encI b)).length ≤ 900000 from hl)
  have HA := Lib.hid ha
  have HB := Lib.hid hb
  clear hW hB hl ha hb
  change Calls _ _ #[.pointer (some ⟨g, 0, none⟩), .agg #[.int .i64 a, .int .i64 b]] _ _
  go_enter Try.func65, Try.ntmps65
  go_upto_region 1 with (fail)
  obtain ⟨w1, hw1⟩ : ∃ zz, zz = (w.alloc (.cells #[.int .i64 a, .int .i64 b] 23)) := ⟨_, rfl⟩
  change Code.wp _ _ _ _ (w.alloc (.cells #[.int .i64 a, .int .i64 b] 23))
  rw [← hw1]
  have HB3 := hid (show Cs w1 (w.heap.size) #[.int .i64 a, .int .i64 b] 23 by rw [hw1]; exact Cs.new _ _ _)
  have hm : Mod (fun _ => False) w w1 := by rw [hw1]; exact (Mod.refl _ _).alloc _
  have HM0 := hid (show Mod (fun k => (R k)) w w1 from hm.mono (fun _ _ h => h.elim))
  have hs1 : w1.heap.size = w.heap.size + 1 := by rw [hw1]; simp
  have Hx1 := hid (HW.out.mod hm (fun _ _ h => h))
  clear HW
  clear hw1 hm
  go_upto_region 1 with (fail)
  generalize ha0 : Act.mk _ _ = a0
  have oe0 : a0.eval (.tmp 0) = .pointer (some ⟨g, 0, none⟩) := by rw [← ha0]; rfl
  have oe3 : a0.eval (.tmp 3) = .pointer (some ⟨w.heap.size, 0, none⟩) := by rw [← ha0]; rfl
  have hsz0 : a0.tmps.size = 11 := by rw [← ha0]; rfl
  have HA0 := hid ha0
  clear ha0
  refine wp_region_Q1 11 hsz0 [4, 5, 6, 7, 8, 9, 10] (fun k => (R k)) (fun k j => (k = 0 ∧ ((R j))) ∨ (k = 1 ∧ ((R j)))) (by intro k j h; (try dsimp only at h ⊢); rcases h with ⟨-, h⟩ | ⟨-, h⟩; (exact h); (exact h)) [qi (.pointer (some ⟨g, 0, none⟩)), qi (.pointer (some ⟨w.heap.size, 0, none⟩)), qi (.int .i64 a), qi (.pointer (some ⟨g, 0, none⟩)), qi (.pointer (some ⟨w.heap.size, 1, none⟩)), qi (.int .i64 b), qi (.pointer (some ⟨g, 0, none⟩))] ⟨qi_stable, qi_stable, qi_stable, qi_stable, qi_stable, qi_stable, qi_stable, trivial⟩ [3, 6] ⟨?_, ?_, ?_, ?_, ?_, ?_, ?_, trivial⟩ ?_
  · exact stq (fun E => ex_move rfl (E.v oe0))
  · exact stq (fun E => ex_field rfl Try.underlying23 rfl (by kernel_rfl) (E.v oe3))
  · exact stq (fun E => ex_load1 rfl Try.underlying3 rfl (E.d 1) (Cs.lit1 (HB3.out.mod E.m (by intro h2; rcases h2 with ⟨h0, h2⟩ | h2 <;> first | omega | (have hb := HBR.out _ h2; omega))) rfl))
  · exact stepq_chain rfl
  · exact stq (fun E => ex_field rfl Try.underlying23 rfl (by kernel_rfl) (E.v oe3))
  · exact stq (fun E => ex_load1 rfl Try.underlying3 rfl (E.d 4) (Cs.lit1 (HB3.out.mod E.m (by intro h2; rcases h2 with ⟨h0, h2⟩ | h2 <;> first | omega | (have hb := HBR.out _ h2; omega))) rfl))
  · exact stepq_chain rfl
  intro u1_0 hr
  have zu1_0 := hr.size
  have Cx2 := hid (hr.new (S := (fun k => (R k))))
  have Hx3 := hid (Hx1.out.mod hr (by intro k h1 h2; have hb := HBR.out k h1; omega))
  clear Hx1
  clear hr
  refine QChain.go fun Z act E => ?_
  refine qc_callF (args := #[.pointer (some ⟨g, 0, none⟩), .int .i64 a]) rfl (wanted_none rfl) rfl Try.func64 (args2 (E.d 0) (E.d 2)) (WInt_Q Hx3.out HA.out (by have := HL.out; simp only [List.length_append] at this ⊢; omega)) ?_
  rintro e u1_1a ⟨rfl, qwr, hm⟩
  have zu1_1a := hm.size
  refine ⟨_, rfl, hm.mono (by intro k hk h; first | omega | exact Or.inl ⟨(by have hb := HBR.out k h; omega), Or.inl ⟨rfl, h⟩⟩), (fun _ => rfl), ?_⟩
  intro u1_1 hr
  have zu1_1 := hr.size
  have Hx4 := hid ((qwr.widen (R' := (fun k => (R k) ∨ (New u1_0 u1_1a k))) (fun _ h => h) (Nat.le_refl _)).mod hr (by intro k h1 h2; rcases h1 with h1 | h1 <;> first | omega | (have hb := HBR.out k h1; omega)))
  have Cx5 := hid (Cx2.out.goM hm hr (fun _ _ h => h))
  clear Cx2 hm hr Z act E qwr Hx3
  refine QChain.go fun Z act E => ?_
  refine qc_callF (args := #[.pointer (some ⟨g, 0, none⟩), .int .i64 b]) rfl (wanted_none rfl) rfl Try.func64 (args2 (E.d 3) (E.d 5)) (WInt_Q Hx4.out HB.out (by have := HL.out; simp only [List.length_append] at this ⊢; omega)) ?_
  rintro e u1_2a ⟨rfl, qwr, hm⟩
  have zu1_2a := hm.size
  refine ⟨_, rfl, hm.mono (by intro k hk h; rcases h with h | h <;> first | omega | exact Or.inl ⟨(by have hb := HBR.out k h; omega), Or.inr (⟨rfl, h⟩)⟩), (fun _ => rfl), ?_⟩
  intro u1_2 hr
  have zu1_2 := hr.size
  have Hx6 := hid ((qwr.widen (R' := (fun k => (R k) ∨ (New u1_0 u1_1a k) ∨ (New u1_1 u1_2a k))) (by intro k h1; simp only [or_assoc] at h1 ⊢; exact h1) (Nat.le_refl _)).mod hr (by intro k h1 h2; rcases h1 with h1 | h1 | h1 <;> first | omega | (have hb := HBR.out k h1; omega)))
  have Cx7 := hid (Cx5.out.goM hm hr (by intro k h0 h2; rcases h2 with h2 | h2 <;> first | omega | exact h2))
  clear Cx5 hm hr Z act E qwr Hx4
  refine QChain.nil fun vs hl hzz hrows hne => ?_
  obtain ⟨Z, hYZ, hZb, hV⟩ := hzz
  have f0 := fvi hV hl 0
  have f3 := fvi hV hl 3
  have f6 := fvi hV hl 6
  rw [show vs = [gw vs 0, gw vs 1, gw vs 2, gw vs 3, gw vs 4, gw vs 5, gw vs 6] from (gw_eta hl).trans rfl]
  have ha0 := HA0.out
  subst ha0
  clear HA0 hV hYZ hZb hsz0 hrows hne oe0 oe3
  simp only [putAll, Act.put, List.setIfInBounds_toArray, List.set_cons_zero, List.set_cons_succ, f0, f3, f6]
  clear hl f0 f3 f6
  go_wp2
  go_end0
  have hq := (Hx6.out.widen (R' := (fun k => R k ∨ New w u1_2 k)) (by intro k h1; rcases h1 with h1 | h1 | h1 <;> first | exact Or.inl h1 | (right; omega)) (Nat.le_refl _))
  simp only [List.append_assoc] at hq
  exact ⟨rfl, by simpa only [nameB, List.append_assoc] using hq, (HM0.out.trans Cx7.out (fun _ _ h => h))⟩
set_option maxHeartbeats 4000000 in
theorem PutCm_Q : Puts CmR 139 cmB := by
  intro R R2 g bs cs x w hW hB hx hB2 hD hl
  obtain ⟨rfl, hok⟩ := hx
  have HW := Lib.hid hW
  have HBR := Lib.hid hB
  have HBT := Lib.hid hB2
  have HDJ := Lib.hid hD
  have HOK := Lib.hid hok
  have HL := Lib.hid hl
  clear hW hB hB2 hD hl hok
  unfold cmB at HL
  go_enter Try.func139, Try.ntmps139
  go_upto_region 1 with (fail)
  obtain ⟨w1, hw1⟩ : ∃ zz, zz = (w.alloc (.cells (x.cells : List Value).toArray 49)) := ⟨_, rfl⟩
  change Code.wp _ _ _ _ (w.alloc (.cells (x.cells : List Value).toArray 49))
  rw [← hw1]
  have HB3 := hid (show Cs w1 (w.heap.size) (x.cells : List Value).toArray 49 by rw [hw1]; exact Cs.new _ _ _)
  have hm : Mod (fun _ => False) w w1 := by rw [hw1]; exact (Mod.refl _ _).alloc _
  have HM0 := hid (show Mod (fun k => (R k)) w w1 from hm.mono (fun _ _ h => h.elim))
  have hs1 : w1.heap.size = w.heap.size + 1 := by rw [hw1]; simp
  have Hx1 := hid (HW.out.mod hm (fun _ _ h => h))
  clear HW
  clear hw1 hm
  go_upto_region 1 with (fail)
  refine wp_region_U 19 [4, 5, 6, 7] [0, 1, 2, 3] (fun a0 HA0 => ?_)
  have oe0 := ev HA0 0 rfl
  have oe3 := ev HA0 3 rfl
  refine QSeq.pure rfl _ (fun E => ex_move rfl (E.v oe0)) ?_
  refine QSeq.pure rfl (.pointer (some ⟨w.heap.size, 0, none⟩)) (fun E => ex_field rfl Try.underlying49 rfl (by kernel_rfl) (E.v oe3)) ?_
  refine QSeq.pure rfl _ (fun E => ex_loadA rfl Try.underlying23 rfl (off := 0) (cs := [.int .i64 x.cl, .int .i64 x.sq]) (by kernel_rfl) (E.d 1 0) (Cs.preA (pre := [.int .i64 x.cl, .int .i64 x.sq]) (mid := x.h.map bv) (post := [.int .i64 x.ln, .int .i64 x.sb, .int .i64 x.mr]) HB3.out rfl)) ?_
  refine QSeq.call rfl rfl Try.func65 (PutName_Q Hx1.out (by intro k h1; have hb := HBR.out k h1; omega) HOK.out.1.1 HOK.out.1.2.1 (by have := HL.out; simp only [List.length_append] at this ⊢; omega)) (fun E => args2 (E.d 0 2) (E.d 2 0)) ?_
  rintro e u1_3 ⟨rfl, qwr, hm⟩
  refine ⟨_, rfl, ?_⟩
  have Hx2 := hid (qwr.widen (R' := (fun k => (R k) ∨ (New w1 u1_3 k))) (fun _ h => h) (Nat.le_refl _))
  have zu1_3 := hm.size
  have Cx3 := hid (show Mod (fun k => (R k)) w1 u1_3 from hm)
  clear hm
  clear qwr Hx1
  refine QSeq.nil (t' := [_, _, _, _]) rfl ?_
  obtain rfl := HA0.out
  clear HA0 oe0 oe3
  simp only [pz, Act.put, List.setIfInBounds_toArray, List.set_cons_zero, List.set_cons_succ]
  go_upto_region 2 with (fail)
  generalize ha0 : Act.mk _ _ = a0
  have oe0 : a0.eval (.tmp 0) = .pointer (some ⟨g, 0, none⟩) := by rw [← ha0]; rfl
  have oe3 : a0.eval (.tmp 3) = .pointer (some ⟨w.heap.size, 0, none⟩) := by rw [← ha0]; rfl
  have hsz0 : a0.tmps.size = 19 := by rw [← ha0]; rfl
  have HA0 := hid ha0
  clear ha0
  refine wp_region_Q1 19 hsz0 [8, 9, 10, 11, 12, 13, 14] (fun k => (R k) ∨ (New w1 u1_3 k)) (fun k j => (k = 0 ∧ ((R j) ∨ (New w1 u1_3 j))) ∨ (k = 1 ∧ ((R j) ∨ (New w1 u1_3 j)))) (by intro k j h; (try dsimp only at h ⊢); rcases h with ⟨-, h | h⟩ | ⟨-, h | h⟩; (exact Or.inl (h)); (exact Or.inr (h)); (exact Or.inl (h)); (exact Or.inr (h))) [qi (.pointer (some ⟨g, 0, none⟩)), qi (.pointer (some ⟨w.heap.size, 2, none⟩)), qi (hv x.h), qi (.pointer (some ⟨g, 0, none⟩)), qi (.pointer (some ⟨w.heap.size, 34, none⟩)), qi (.int .i64 x.ln), qi (.pointer (some ⟨g, 0, none⟩))] ⟨qi_stable, qi_stable, qi_stable, qi_stable, qi_stable, qi_stable, qi_stable, trivial⟩ [3, 6] ⟨?_, ?_, ?_, ?_, ?_, ?_, ?_, trivial⟩ ?_
  · exact stq (fun E => ex_move rfl (E.v oe0))
  · exact stq (fun E => ex_field rfl Try.underlying49 rfl (by kernel_rfl) (E.v oe3))
  · exact stq (fun E => ex_loadA rfl Try.underlying25 rfl (off := 2) (cs := x.h.map bv) (by rw [List.length_map, HOK.out.2.1]; exact size_hash) (E.d 1) (((HB3.out.mod Cx3.out (by intro h2; first | omega | (have hb := HBR.out _ h2; omega))).mod E.m (by intro h2; rcases h2 with ⟨h0, h2 | h2⟩ | h2 <;> first | omega | (have hb := HBR.out _ h2; omega))).hash))
  · exact stepq_chain rfl
  · exact stq (fun E => ex_field rfl Try.underlying49 rfl (by kernel_rfl) (E.v oe3))
  · exact stq (fun E => ex_load1 rfl Try.underlying3 rfl (E.d 4) (((HB3.out.mod Cx3.out (by intro h2; first | omega | (have hb := HBR.out _ h2; omega))).mod E.m (by intro h2; rcases h2 with ⟨h0, h2 | h2⟩ | h2 <;> first | omega | (have hb := HBR.out _ h2; omega))).c34 HOK.out.2.1))
  · exact stepq_chain rfl
  intro u2_0 hr
  have zu2_0 := hr.size
  have Cx4 := hid (hr.new (S := (fun k => (R k) ∨ (New w1 u1_3 k))))
  have Hx5 := hid (Hx2.out.mod hr (by intro k h1 h2; rcases h1 with h1 | h1 <;> first | omega | (have hb := HBR.out k h1; omega)))
  clear Hx2
  clear hr
  refine QChain.go fun Z act E => ?_
  refine qc_callF (args := #[.pointer (some ⟨g, 0, none⟩), hv x.h]) rfl (wanted_none rfl) rfl Try.func66 (args2 (E.d 0) (E.d 2)) (WHash_Q Hx5.out HOK.out.2 (by have := HL.out; simp only [List.length_append] at this ⊢; omega)) ?_
  rintro e u2_1a ⟨rfl, qwr, hm⟩
  have zu2_1a := hm.size
  refine ⟨_, rfl, hm.mono (by intro k hk h; rcases h with h | h <;> first | omega | exact Or.inl ⟨(by have hb := HBR.out k h; omega), Or.inl ⟨rfl, Or.inl h⟩⟩), (fun _ => rfl), ?_⟩
  intro u2_1 hr
  have zu2_1 := hr.size
  have Hx6 := hid ((qwr.widen (R' := (fun k => (R k) ∨ (New w1 u1_3 k) ∨ (New u2_0 u2_1a k))) (by intro k h1; simp only [or_assoc] at h1 ⊢; exact h1) (Nat.le_refl _)).mod hr (by intro k h1 h2; rcases h1 with h1 | h1 | h1 <;> first | omega | (have hb := HBR.out k h1; omega)))
  have Cx7 := hid (Cx4.out.goM hm hr (fun _ _ h => h))
  clear Cx4 hm hr Z act E qwr Hx5
  refine QChain.go fun Z act E => ?_
  refine qc_callF (args := #[.pointer (some ⟨g, 0, none⟩), .int .i64 x.ln]) rfl (wanted_none rfl) rfl Try.func64 (args2 (E.d 3) (E.d 5)) (WInt_Q Hx6.out HOK.out.1.2.2.1 (by have := HL.out; simp only [List.length_append] at this ⊢; omega)) ?_
  rintro e u2_2a ⟨rfl, qwr, hm⟩
  have zu2_2a := hm.size
  refine ⟨_, rfl, hm.mono (by intro k hk h; rcases h with h | h | h <;> first | omega | exact Or.inl ⟨(by have hb := HBR.out k h; omega), Or.inr (⟨rfl, Or.inl h⟩)⟩), (fun _ => rfl), ?_⟩
  intro u2_2 hr
  have zu2_2 := hr.size
  have Hx8 := hid ((qwr.widen (R' := (fun k => (R k) ∨ (New w1 u1_3 k) ∨ (New u2_0 u2_1a k) ∨ (New u2_1 u2_2a k))) (by intro k h1; simp only [or_assoc] at h1 ⊢; exact h1) (Nat.le_refl _)).mod hr (by intro k h1 h2; rcases h1 with h1 | h1 | h1 | h1 <;> first | omega | (have hb := HBR.out k h1; omega)))
  have Cx9 := hid (Cx7.out.goM hm hr (by intro k h0 h2; rcases h2 with h2 | h2 | h2 <;> first | omega | exact Or.inl h2 | exact Or.inr (h2)))
  clear Cx7 hm hr Z act E qwr Hx6
  refine QChain.nil fun vs hl hzz hrows hne => ?_
  obtain ⟨Z, hYZ, hZb, hV⟩ := hzz
  have f0 := fvi hV hl 0
  have f3 := fvi hV hl 3
  have f6 := fvi hV hl 6
  rw [show vs = [gw vs 0, gw vs 1, gw vs 2, gw vs 3, gw vs 4, gw vs 5, gw vs 6] from (gw_eta hl).trans rfl]
  have ha0 := HA0.out
  subst ha0
  clear HA0 hV hYZ hZb hsz0 hrows hne oe0 oe3
  simp only [putAll, Act.put, List.setIfInBounds_toArray, List.set_cons_zero, List.set_cons_succ, f0, f3, f6]
  clear hl f0 f3 f6
  go_upto_region 3 with (fail)
  refine wp_region_U 19 [15, 16, 17, 18] [0, 1, 2, 3] (fun a0 HA0 => ?_)
  have oe0 := ev HA0 0 rfl
  have oe3 := ev HA0 3 rfl
  refine QSeq.pure rfl _ (fun E => ex_move rfl (E.v oe0)) ?_
  refine QSeq.pure rfl (.pointer (some ⟨w.heap.size, 35, none⟩)) (fun E => ex_field rfl Try.underlying49 rfl (by kernel_rfl) (E.v oe3)) ?_
  refine QSeq.pure rfl _ (fun E => ex_loadA rfl Try.underlying28 rfl (off := 35) (cs := [.int .i64 x.sb, .int .i64 x.mr]) (by kernel_rfl) (E.d 1 0) (((HB3.out.mod Cx3.out (by intro h2; first | omega | (have hb := HBR.out _ h2; omega))).mod Cx9.out (by intro h2; rcases h2 with h2 | h2 <;> first | omega | (have hb := HBR.out _ h2; omega))).sig HOK.out.2.1)) ?_
  refine QSeq.call rfl rfl Try.func142 (PutSig_Q Hx8.out (by intro k h1; rcases h1 with h1 | h1 | h1 | h1 <;> first | omega | (have hb := HBR.out k h1; omega)) HOK.out.1.2.2.2.1 HOK.out.1.2.2.2.2 (by have := HL.out; simp only [List.length_append] at this ⊢; omega)) (fun E => args2 (E.d 0 2) (E.d 2 0)) ?_
  rintro e u3_3 ⟨rfl, qwr, hm⟩
  refine ⟨_, rfl, ?_⟩
  have Hx10 := hid (qwr.widen (R' := (fun k => (R k) ∨ (New w1 u1_3 k) ∨ (New u2_0 u2_1a k) ∨ (New u2_1 u2_2a k) ∨ (New u2_2 u3_3 k))) (by intro k h1; simp only [or_assoc] at h1 ⊢; exact h1) (Nat.le_refl _))
  have zu3_3 := hm.size
  have Cx11 := hid (show Mod (fun k => (R k) ∨ (New w1 u1_3 k) ∨ (New u2_0 u2_1a k) ∨ (New u2_1 u2_2a k)) u2_2 u3_3 from hm)
  clear hm
  clear qwr Hx8
  refine QSeq.nil (t' := [_, _, _, _]) rfl ?_
  obtain rfl := HA0.out
  clear HA0 oe0 oe3
  simp only [pz, Act.put, List.setIfInBounds_toArray, List.set_cons_zero, List.set_cons_succ]
  go_wp2
  go_end0
  have hq := (Hx10.out.widen (R' := (fun k => R k ∨ New w u3_3 k)) (by intro k h1; rcases h1 with h1 | h1 | h1 | h1 | h1 <;> first | exact Or.inl h1 | (right; omega)) (Nat.le_refl _))
  simp only [List.append_assoc] at hq
  exact ⟨rfl, by simpa only [cmB, List.append_assoc] using hq, (((HM0.out.trans Cx3.out (fun _ _ h => h)).trans Cx9.out (by intro k h1 h2; rcases h2 with h2 | h2 <;> first | exact h2 | omega | (have hb := HBR.out k h2; omega))).trans Cx11.out (by intro k h1 h2; rcases h2 with h2 | h2 | h2 | h2 <;> first | exact h2 | omega | (have hb := HBR.out k h2; omega)))⟩
set_option maxHeartbeats 4000000 in
theorem PutSt_Q : Puts StR 141 stB := by
  intro R R2 g bs cs x w hW hB hx hB2 hD hl
  obtain ⟨rfl, hok⟩ := hx
  have HW := Lib.hid hW
  have HBR := Lib.hid hB
  have HBT := Lib.hid hB2
  have HDJ := Lib.hid hD
  have HOK := Lib.hid hok
  have HL := Lib.hid hl
  clear hW hB hB2 hD hl hok
  unfold stB at HL
  go_enter Try.func141, Try.ntmps141
  go_upto_region 1 with (fail)
  obtain ⟨w1, hw1⟩ : ∃ zz, zz = (w.alloc (.cells (x.cells : List Value).toArray 30)) := ⟨_, rfl⟩
  change Code.wp _ _ _ _ (w.alloc (.cells (x.cells : List Value).toArray 30))
  rw [← hw1]
  have HB3 := hid (show Cs w1 (w.heap.size) (x.cells : List Value).toArray 30 by rw [hw1]; exact Cs.new _ _ _)
  have hm : Mod (fun _ => False) w w1 := by rw [hw1]; exact (Mod.refl _ _).alloc _
  have HM0 := hid (show Mod (fun k => (R k)) w w1 from hm.mono (fun _ _ h => h.elim))
  have hs1 : w1.heap.size = w.heap.size + 1 := by rw [hw1]; simp
  have Hx1 := hid (HW.out.mod hm (fun _ _ h => h))
  clear HW
  clear hw1 hm
  go_upto_region 1 with (fail)
  refine wp_region_U 23 [4, 5, 6, 7] [0, 1, 2, 3] (fun a0 HA0 => ?_)
  have oe0 := ev HA0 0 rfl
  have oe3 := ev HA0 3 rfl
  refine QSeq.pure rfl _ (fun E => ex_move rfl (E.v oe0)) ?_
  refine QSeq.pure rfl (.pointer (some ⟨w.heap.size, 0, none⟩)) (fun E => ex_field rfl Try.underlying30 rfl (by kernel_rfl) (E.v oe3)) ?_
  refine QSeq.pure rfl _ (fun E => ex_load1 rfl Try.underlying3 rfl (E.d 1 0) (Cs.pre1 HB3.out rfl)) ?_
  refine QSeq.call rfl rfl Try.func64 (WInt_Q Hx1.out HOK.out.rp (by have := HL.out; simp only [List.length_append] at this ⊢; omega)) (fun E => args2 (E.d 0 2) (E.d 2 0)) ?_
  rintro e u1_3 ⟨rfl, qwr, hm⟩
  refine ⟨_, rfl, ?_⟩
  have Hx2 := hid (qwr.widen (R' := (fun k => (R k) ∨ (New w1 u1_3 k))) (fun _ h => h) (Nat.le_refl _))
  have zu1_3 := hm.size
  have Cx3 := hid (show Mod (fun k => (R k)) w1 u1_3 from hm)
  clear hm
  clear qwr Hx1
  refine QSeq.nil (t' := [_, _, _, _]) rfl ?_
  obtain rfl := HA0.out
  clear HA0 oe0 oe3
  simp only [pz, Act.put, List.setIfInBounds_toArray, List.set_cons_zero, List.set_cons_succ]
  go_upto_region 2 with (fail)
  refine wp_region_U 23 [8, 9, 10, 11] [0, 1, 2, 3] (fun a0 HA0 => ?_)
  have oe0 := ev HA0 0 rfl
  have oe3 := ev HA0 3 rfl
  refine QSeq.pure rfl _ (fun E => ex_move rfl (E.v oe0)) ?_
  refine QSeq.pure rfl (.pointer (some ⟨w.heap.size, 1, none⟩)) (fun E => ex_field rfl Try.underlying30 rfl (by kernel_rfl) (E.v oe3)) ?_
  refine QSeq.pure rfl _ (fun E => ex_loadA rfl Try.underlying23 rfl (off := 1) (cs := [.int .i64 x.cl, .int .i64 x.sq]) (by kernel_rfl) (E.d 1 0) (Cs.preA (HB3.out.mod Cx3.out (by intro h2; first | omega | (have hb := HBR.out _ h2; omega))) rfl)) ?_
  refine QSeq.call rfl rfl Try.func65 (PutName_Q Hx2.out (by intro k h1; rcases h1 with h1 | h1 <;> first | omega | (have hb := HBR.out k h1; omega)) HOK.out.cl HOK.out.sq (by have := HL.out; simp only [List.length_append] at this ⊢; omega)) (fun E => args2 (E.d 0 2) (E.d 2 0)) ?_
  rintro e u2_3 ⟨rfl, qwr, hm⟩
  refine ⟨_, rfl, ?_⟩
  have Hx4 := hid (qwr.widen (R' := (fun k => (R k) ∨ (New w1 u1_3 k) ∨ (New u1_3 u2_3 k))) (by intro k h1; simp only [or_assoc] at h1 ⊢; exact h1) (Nat.le_refl _))
  have zu2_3 := hm.size
  have Cx5 := hid (show Mod (fun k => (R k) ∨ (New w1 u1_3 k)) u1_3 u2_3 from hm)
  clear hm
  clear qwr Hx2
  refine QSeq.nil (t' := [_, _, _, _]) rfl ?_
  obtain rfl := HA0.out
  clear HA0 oe0 oe3
  simp only [pz, Act.put, List.setIfInBounds_toArray, List.set_cons_zero, List.set_cons_succ]
  go_upto_region 3 with (fail)
  generalize ha0 : Act.mk _ _ = a0
  have oe0 : a0.eval (.tmp 0) = .pointer (some ⟨g, 0, none⟩) := by rw [← ha0]; rfl
  have oe3 : a0.eval (.tmp 3) = .pointer (some ⟨w.heap.size, 0, none⟩) := by rw [← ha0]; rfl
  have hsz0 : a0.tmps.size = 23 := by rw [← ha0]; rfl
  have HA0 := hid ha0
  clear ha0
  refine wp_region_Q1 23 hsz0 [12, 13, 14, 15, 16, 17, 18] (fun k => (R k) ∨ (New w1 u1_3 k) ∨ (New u1_3 u2_3 k)) (fun k j => (k = 0 ∧ ((R j) ∨ (New w1 u1_3 j) ∨ (New u1_3 u2_3 j))) ∨ (k = 1 ∧ ((R j) ∨ (New w1 u1_3 j) ∨ (New u1_3 u2_3 j)))) (by intro k j h; (try dsimp only at h ⊢); rcases h with ⟨-, h | h | h⟩ | ⟨-, h | h | h⟩; (exact Or.inl (h)); (exact Or.inr (Or.inl (h))); (exact Or.inr (Or.inr (h))); (exact Or.inl (h)); (exact Or.inr (Or.inl (h))); (exact Or.inr (Or.inr (h)))) [qi (.pointer (some ⟨g, 0, none⟩)), qi (.pointer (some ⟨w.heap.size, 3, none⟩)), qi (hv x.h), qi (.pointer (some ⟨g, 0, none⟩)), qi (.pointer (some ⟨w.heap.size, 35, none⟩)), qi (.int .u64 (x.tm : Nat)), qi (.pointer (some ⟨g, 0, none⟩))] ⟨qi_stable, qi_stable, qi_stable, qi_stable, qi_stable, qi_stable, qi_stable, trivial⟩ [3, 6] ⟨?_, ?_, ?_, ?_, ?_, ?_, ?_, trivial⟩ ?_
  · exact stq (fun E => ex_move rfl (E.v oe0))
  · exact stq (fun E => ex_field rfl Try.underlying30 rfl (by kernel_rfl) (E.v oe3))
  · exact stq (fun E => ex_loadA rfl Try.underlying25 rfl (off := 3) (cs := x.h.map bv) (by rw [List.length_map, HOK.out.h.1]; exact size_hash) (E.d 1) (Cs.midA (((HB3.out.mod Cx3.out (by intro h2; first | omega | (have hb := HBR.out _ h2; omega))).mod Cx5.out (by intro h2; rcases h2 with h2 | h2 <;> first | omega | (have hb := HBR.out _ h2; omega))).mod E.m (by intro h2; rcases h2 with ⟨h0, h2 | h2 | h2⟩ | h2 <;> first | omega | (have hb := HBR.out _ h2; omega))) rfl))
  · exact stepq_chain rfl
  · exact stq (fun E => ex_field rfl Try.underlying30 rfl (by kernel_rfl) (E.v oe3))
  · exact stq (fun E => ex_load1 rfl Try.underlying26 rfl (E.d 4) (Cs.post1 (m := 32) (k := 0) (((HB3.out.mod Cx3.out (by intro h2; first | omega | (have hb := HBR.out _ h2; omega))).mod Cx5.out (by intro h2; rcases h2 with h2 | h2 <;> first | omega | (have hb := HBR.out _ h2; omega))).mod E.m (by intro h2; rcases h2 with ⟨h0, h2 | h2 | h2⟩ | h2 <;> first | omega | (have hb := HBR.out _ h2; omega))) (by rw [List.length_map]; exact HOK.out.h.1) rfl rfl))
  · exact stepq_chain rfl
  intro u3_0 hr
  have zu3_0 := hr.size
  have Cx6 := hid (hr.new (S := (fun k => (R k) ∨ (New w1 u1_3 k) ∨ (New u1_3 u2_3 k))))
  have Hx7 := hid (Hx4.out.mod hr (by intro k h1 h2; rcases h1 with h1 | h1 | h1 <;> first | omega | (have hb := HBR.out k h1; omega)))
  clear Hx4
  clear hr
  refine QChain.go fun Z act E => ?_
  refine qc_callF (args := #[.pointer (some ⟨g, 0, none⟩), hv x.h]) rfl (wanted_none rfl) rfl Try.func66 (args2 (E.d 0) (E.d 2)) (WHash_Q Hx7.out HOK.out.h (by have := HL.out; simp only [List.length_append] at this ⊢; omega)) ?_
  rintro e u3_1a ⟨rfl, qwr, hm⟩
  have zu3_1a := hm.size
  refine ⟨_, rfl, hm.mono (by intro k hk h; rcases h with h | h | h <;> first | omega | exact Or.inl ⟨(by have hb := HBR.out k h; omega), Or.inl ⟨rfl, Or.inl h⟩⟩), (fun _ => rfl), ?_⟩
  intro u3_1 hr
  have zu3_1 := hr.size
  have Hx8 := hid ((qwr.widen (R' := (fun k => (R k) ∨ (New w1 u1_3 k) ∨ (New u1_3 u2_3 k) ∨ (New u3_0 u3_1a k))) (by intro k h1; simp only [or_assoc] at h1 ⊢; exact h1) (Nat.le_refl _)).mod hr (by intro k h1 h2; rcases h1 with h1 | h1 | h1 | h1 <;> first | omega | (have hb := HBR.out k h1; omega)))
  have Cx9 := hid (Cx6.out.goM hm hr (fun _ _ h => h))
  clear Cx6 hm hr Z act E qwr Hx7
  refine QChain.go fun Z act E => ?_
  refine qc_callF (args := #[.pointer (some ⟨g, 0, none⟩), .int .u64 (x.tm : Nat)]) rfl (wanted_none rfl) rfl Try.func67 (args2 (E.d 3) (E.d 5)) (WNum_Q Hx8.out HOK.out.tm (by have := HL.out; simp only [List.length_append] at this ⊢; omega)) ?_
  rintro e u3_2a ⟨rfl, qwr, hm⟩
  have zu3_2a := hm.size
  refine ⟨_, rfl, hm.mono (by intro k hk h; rcases h with h | h | h | h <;> first | omega | exact Or.inl ⟨(by have hb := HBR.out k h; omega), Or.inr (⟨rfl, Or.inl h⟩)⟩), (fun _ => rfl), ?_⟩
  intro u3_2 hr
  have zu3_2 := hr.size
  have Hx10 := hid ((qwr.widen (R' := (fun k => (R k) ∨ (New w1 u1_3 k) ∨ (New u1_3 u2_3 k) ∨ (New u3_0 u3_1a k) ∨ (New u3_1 u3_2a k))) (by intro k h1; simp only [or_assoc] at h1 ⊢; exact h1) (Nat.le_refl _)).mod hr (by intro k h1 h2; rcases h1 with h1 | h1 | h1 | h1 | h1 <;> first | omega | (have hb := HBR.out k h1; omega)))
  have Cx11 := hid (Cx9.out.goM hm hr (by intro k h0 h2; rcases h2 with h2 | h2 | h2 | h2 <;> first | omega | exact Or.inl h2 | exact Or.inr (Or.inl h2) | exact Or.inr (Or.inr (h2))))
  clear Cx9 hm hr Z act E qwr Hx8
  refine QChain.nil fun vs hl hzz hrows hne => ?_
  obtain ⟨Z, hYZ, hZb, hV⟩ := hzz
  have f0 := fvi hV hl 0
  have f3 := fvi hV hl 3
  have f6 := fvi hV hl 6
  rw [show vs = [gw vs 0, gw vs 1, gw vs 2, gw vs 3, gw vs 4, gw vs 5, gw vs 6] from (gw_eta hl).trans rfl]
  have ha0 := HA0.out
  subst ha0
  clear HA0 hV hYZ hZb hsz0 hrows hne oe0 oe3
  simp only [putAll, Act.put, List.setIfInBounds_toArray, List.set_cons_zero, List.set_cons_succ, f0, f3, f6]
  clear hl f0 f3 f6
  go_upto_region 4 with (fail)
  refine wp_region_U 23 [19, 20, 21, 22] [0, 1, 2, 3] (fun a0 HA0 => ?_)
  have oe0 := ev HA0 0 rfl
  have oe3 := ev HA0 3 rfl
  refine QSeq.pure rfl _ (fun E => ex_move rfl (E.v oe0)) ?_
  refine QSeq.pure rfl (.pointer (some ⟨w.heap.size, 36, none⟩)) (fun E => ex_field rfl Try.underlying30 rfl (by kernel_rfl) (E.v oe3)) ?_
  refine QSeq.pure rfl _ (fun E => ex_loadA rfl Try.underlying28 rfl (off := 36) (cs := [.int .i64 x.sb, .int .i64 x.mr]) (by kernel_rfl) (E.d 1 0) (Cs.postA (m := 32) (k := 1) (((HB3.out.mod Cx3.out (by intro h2; first | omega | (have hb := HBR.out _ h2; omega))).mod Cx5.out (by intro h2; rcases h2 with h2 | h2 <;> first | omega | (have hb := HBR.out _ h2; omega))).mod Cx11.out (by intro h2; rcases h2 with h2 | h2 | h2 <;> first | omega | (have hb := HBR.out _ h2; omega))) (by rw [List.length_map]; exact HOK.out.h.1) rfl rfl)) ?_
  refine QSeq.call rfl rfl Try.func142 (PutSig_Q Hx10.out (by intro k h1; rcases h1 with h1 | h1 | h1 | h1 | h1 <;> first | omega | (have hb := HBR.out k h1; omega)) HOK.out.sb HOK.out.mr (by have := HL.out; simp only [List.length_append] at this ⊢; omega)) (fun E => args2 (E.d 0 2) (E.d 2 0)) ?_
  rintro e u4_3 ⟨rfl, qwr, hm⟩
  refine ⟨_, rfl, ?_⟩
  have Hx12 := hid (qwr.widen (R' := (fun k => (R k) ∨ (New w1 u1_3 k) ∨ (New u1_3 u2_3 k) ∨ (New u3_0 u3_1a k) ∨ (New u3_1 u3_2a k) ∨ (New u3_2 u4_3 k))) (by intro k h1; simp only [or_assoc] at h1 ⊢; exact h1) (Nat.le_refl _))
  have zu4_3 := hm.size
  have Cx13 := hid (show Mod (fun k => (R k) ∨ (New w1 u1_3 k) ∨ (New u1_3 u2_3 k) ∨ (New u3_0 u3_1a k) ∨ (New u3_1 u3_2a k)) u3_2 u4_3 from hm)
  clear hm
  clear qwr Hx10
  refine QSeq.nil (t' := [_, _, _, _]) rfl ?_
  obtain rfl := HA0.out
  clear HA0 oe0 oe3
  simp only [pz, Act.put, List.setIfInBounds_toArray, List.set_cons_zero, List.set_cons_succ]
  go_wp2
  go_end0
  have hq := (Hx12.out.widen (R' := (fun k => R k ∨ New w u4_3 k)) (by intro k h1; rcases h1 with h1 | h1 | h1 | h1 | h1 | h1 <;> first | exact Or.inl h1 | (right; omega)) (Nat.le_refl _))
  simp only [List.append_assoc] at hq
  exact ⟨rfl, by simpa only [stB, List.append_assoc] using hq, ((((HM0.out.trans Cx3.out (fun _ _ h => h)).trans Cx5.out (by intro k h1 h2; rcases h2 with h2 | h2 <;> first | exact h2 | omega | (have hb := HBR.out k h2; omega))).trans Cx11.out (by intro k h1 h2; rcases h2 with h2 | h2 | h2 <;> first | exact h2 | omega | (have hb := HBR.out k h2; omega))).trans Cx13.out (by intro k h1 h2; rcases h2 with h2 | h2 | h2 | h2 | h2 <;> first | exact h2 | omega | (have hb := HBR.out k h2; omega)))⟩
set_option maxHeartbeats 4000000 in
theorem PutList_St : PutsL StR 140 141 stB := by
  intro R R2 g bs v l w hW hB hs hB2 hD hl
  obtain ⟨ao, cap, rfl⟩ := hs.shape
  have hb64 : l.length ≤ maxLen := hs.bd
  rw [maxLen_val] at hb64
  have HI64 := hid (show I64 (l.length : Int) by unfold I64; omega)
  have HW := Lib.hid hW
  have HS := Lib.hid hs
  have HBR := Lib.hid hB
  have HBT := Lib.hid hB2
  have HDJ := Lib.hid hD
  have HL := Lib.hid hl
  clear hW hB hs hB2 hD hl
  unfold listB at HL
  go_enter Try.func140, Try.ntmps140
  go_upto_region 0 with (fail)
  have HM0 := hid (Mod.refl (fun k => (R k)) w)
  go_upto_region 0 with (fail)
  refine wp_region_U 23 [8, 9, 10, 11] [0, 1, 2, 3] (fun a0 HA0 => ?_)
  have oe0 := ev HA0 0 rfl
  have oe1 := ev HA0 1 rfl
  refine QSeq.pure rfl _ (fun E => ex_move rfl (E.v oe0)) ?_
  refine QSeq.pure rfl _ (fun E => ex_move rfl (E.v oe1)) ?_
  refine QSeq.pure rfl (.int .i64 l.length) (fun E => ex_lenS rfl (E.d 1 0) Try.underlying50) ?_
  refine QSeq.call rfl rfl Try.func64 (WInt_Q HW.out HI64.out (by have := HL.out; simp only [List.length_append] at this ⊢; omega)) (fun E => args2 (E.d 0 2) (E.d 2 0)) ?_
  rintro e u0_3 ⟨rfl, qwr, hm⟩
  refine ⟨_, rfl, ?_⟩
  have Hx1 := hid (qwr.widen (R' := (fun k => (R k) ∨ (New w u0_3 k))) (fun _ h => h) (Nat.le_refl _))
  have zu0_3 := hm.size
  have Cx2 := hid (show Mod (fun k => (R k)) w u0_3 from hm)
  clear hm
  clear qwr HW
  refine QSeq.nil (t' := [_, _, _, _]) rfl ?_
  obtain rfl := HA0.out
  clear HA0 oe0 oe1
  simp only [pz, Act.put, List.setIfInBounds_toArray, List.set_cons_zero, List.set_cons_succ]
  go_wp2
  go_loopw [14] (fun t wr => ∃ k : Nat, t = .int .i64 (k : Int) ∧ k ≤ l.length ∧ u0_3.heap.size ≤ wr.heap.size ∧ WrR (fun b => R b ∨ (w.heap.size ≤ b ∧ b < wr.heap.size)) 900000 wr g (bs ++ (encI l.length ++ ((l.take k).map stB).flatten)) ∧ RdS StR R2 wr (.slice ao l.length cap) l ∧ Mod R w wr) (fun t _ => l.length - (intOf t).toNat)
  case atStart => exact ⟨0, rfl, Nat.zero_le _, Nat.le_refl _, by have hq := (Hx1.out.widen (R' := (fun k => R k ∨ (w.heap.size ≤ k ∧ k < u0_3.heap.size))) (by intro k h1; rcases h1 with h1 | h1 <;> first | exact Or.inl h1 | (right; omega)) (Nat.le_refl _)); simpa only [List.take_zero, List.map_nil, List.flatten_nil, List.append_nil] using hq, (HS.out.mod Cx2.out (by intro k h1 h2; first | omega | (have hb := HBT.out k h1; omega) | (have hb := HBR.out k h2; omega) | exact HDJ.out k h1 h2 | exact HDJ.out k h2 h1 | (have hb := HBT.out k h1; have hb2 := HBR.out k h2; omega))), (HM0.out.trans Cx2.out (fun _ _ h => h))⟩
  case round =>
    obtain ⟨k, rfl, hk, hz, hw, hs, hm⟩ := hrel
    have HW2 := Lib.hid hw
    have HS2 := Lib.hid hs
    have HM2 := Lib.hid hm
    clear hw hs hm Hx1 HS HM0
    obtain ⟨wo, rfl⟩ : ∃ x, x = wr := ⟨_, rfl⟩
    by_cases hlt : k < l.length
    · skip
      obtain ⟨g0, o0, cs, rfl, hrg, hrd, hcs⟩ := HS2.out.at hlt
      have hcl : cs.length = 38 := StR.len hrd
      have HCL := Lib.hid hcl
      have HAT := hid (show CellsAt R2 wo g0 (o0 + k * 38) cs from ⟨hrg, hcs⟩)
      have HRD := Lib.hid hrd
      have HOC := hid (StR.one hrd)
      clear hcl hcs hrd hrg
      have HE : Hid (bs ++ (encI l.length ++ ((l.take k).map stB).flatten) ++ stB l[k] = bs ++ (encI l.length ++ ((l.take (k + 1)).map stB).flatten)) := hid (by rw [List.take_succ_eq_append_getElem hlt, List.map_append, List.flatten_append]; simp [List.append_assoc])
      have HLk := hid (show (bs ++ (encI l.length ++ ((l.take k).map stB).flatten) ++ stB l[k]).length ≤ 900000 by rw [HE.out]; exact Nat.le_trans (put_len _ _ _ _ _) HL.out)
      go_upto_region 3 with (fail)
      refine wp_region_U 23 [16, 17, 7, 26] [0, 1, 2, 3] (fun a0 HA0 => ?_)
      have oe12 := ev HA0 12 rfl
      have oe14 := ev HA0 14 rfl
      refine QSeq.pure rfl (.pointer (some ⟨g0, o0 + k * 38, none⟩)) (fun E => ex_idxS (i := k) (s := 38) rfl Try.underlying50 (by kernel_rfl) (E.v oe12) (E.v oe14) (by omega)) ?_
      refine QSeq.pure rfl _ (fun E => ex_loadA rfl Try.underlying30 rfl (off := o0 + k * 38) (cs := cs) (by rw [HCL.out]; kernel_rfl) (E.d 0 0) (fun j u hu => (HAT.out).2 j u hu)) ?_
      refine QSeq.go fun act E => ?_
      refine qc_alloc rfl (wanted_none rfl) rfl (z := [.int .i64 0, .int .i64 0, .int .i64 0, .int .u8 0, .int .u8 0, .int .u8 0, .int .u8 0, .int .u8 0, .int .u8 0, .int .u8 0, .int .u8 0, .int .u8 0, .int .u8 0, .int .u8 0, .int .u8 0, .int .u8 0, .int .u8 0, .int .u8 0, .int .u8 0, .int .u8 0, .int .u8 0, .int .u8 0, .int .u8 0, .int .u8 0, .int .u8 0, .int .u8 0, .int .u8 0, .int .u8 0, .int .u8 0, .int .u8 0, .int .u8 0, .int .u8 0, .int .u8 0, .int .u8 0, .int .u8 0, .int .u64 0, .int .i64 0, .int .i64 0]) (by kernel_rfl) ?_
      intro u3_2 qq hm
      have zl3_2 := qq.lt
      have Hx3 := hid qq
      have zu3_2 := hm.size
      have Cx4 := hid (show Mod (fun _ => False) wo u3_2 from hm)
      clear hm
      clear act E qq
      refine QSeq.go fun act E => ?_
      have hlz : (cs).length = List.length ([.int .i64 0, .int .i64 0, .int .i64 0, .int .u8 0, .int .u8 0, .int .u8 0, .int .u8 0, .int .u8 0, .int .u8 0, .int .u8 0, .int .u8 0, .int .u8 0, .int .u8 0, .int .u8 0, .int .u8 0, .int .u8 0, .int .u8 0, .int .u8 0, .int .u8 0, .int .u8 0, .int .u8 0, .int .u8 0, .int .u8 0, .int .u8 0, .int .u8 0, .int .u8 0, .int .u8 0, .int .u8 0, .int .u8 0, .int .u8 0, .int .u8 0, .int .u8 0, .int .u8 0, .int .u8 0, .int .u8 0, .int .u64 0, .int .i64 0, .int .i64 0] : List Value) := (by rw [HCL.out]; rfl)
      refine qc_store rfl (wanted_none rfl) rfl Hx3.out (off := 0) (vs := cs) (by rw [hlz]; kernel_rfl) HOC.out (by rw [hlz]; exact Nat.le_of_eq (Nat.zero_add _)) (E.d 2 0) (ec (E.d 1 1)) ?_
      intro u3_3 qc0 hm
      have qq := qc0.eqv (b := (cs : List Value).toArray) (lay_whole #[.int .i64 0, .int .i64 0, .int .i64 0, .int .u8 0, .int .u8 0, .int .u8 0, .int .u8 0, .int .u8 0, .int .u8 0, .int .u8 0, .int .u8 0, .int .u8 0, .int .u8 0, .int .u8 0, .int .u8 0, .int .u8 0, .int .u8 0, .int .u8 0, .int .u8 0, .int .u8 0, .int .u8 0, .int .u8 0, .int .u8 0, .int .u8 0, .int .u8 0, .int .u8 0, .int .u8 0, .int .u8 0, .int .u8 0, .int .u8 0, .int .u8 0, .int .u8 0, .int .u8 0, .int .u8 0, .int .u8 0, .int .u64 0, .int .i64 0, .int .i64 0] _ (by rw [hlz]; rfl))
      clear qc0 hlz
      have Hx5 := hid qq
      have zu3_3 := hm.size
      have HMu3_3 := hid hm
      have Cx6 := hid (Mod.goS (S' := (fun _ => False)) Cx4.out hm (fun _ h => h) (by intro k h0 h2; omega))
      clear hm Cx4
      clear act E qq Hx3
      clear HMu3_3
      refine QSeq.nil (t' := [_, _, _, _]) rfl ?_
      obtain rfl := HA0.out
      clear HA0 oe12 oe14
      simp only [pz, Act.put, List.setIfInBounds_toArray, List.set_cons_zero, List.set_cons_succ, List.set_nil]
      go_upto_region 4 with (fail)
      refine wp_region_U 23 [18, 19, 20, 21] [0, 1, 2, 3] (fun a0 HA0 => ?_)
      have oe0 := ev HA0 0 rfl
      have oe2 := ev HA0 2 rfl
      have oe7 := ev HA0 7 rfl
      refine QSeq.pure rfl _ (fun E => ex_move rfl (E.v oe2)) ?_
      refine QSeq.pure rfl _ (fun E => ex_move rfl (E.v oe0)) ?_
      refine QSeq.pure rfl _ (fun E => ex_loadA rfl Try.underlying30 rfl (off := 0) (cs := cs) (by rw [HCL.out]; kernel_rfl) (E.v oe7) (Cs.whole Hx5.out)) ?_
      refine QSeq.go fun act E => ?_
      have ea19 : act.eval (.tmp 19) = .pointer (some ⟨g, 0, none⟩) := (E.d 1 1)
      have ea20 : act.eval (.tmp 20) = .agg cs.toArray := (E.d 2 0)
      refine qc_call (args := #[.pointer (some ⟨g, 0, none⟩), .agg cs.toArray]) rfl (wanted_none rfl) (by rw [ex_callV rfl (E.d 0 2) Try.func141 (by kernel_rfl) (by kernel_rfl)]; exact congrArg (fun z => Result.ok (Next.enter _ z) _) (by simp only [List.map_toArray, List.map_cons, List.map_nil, ea19, ea20]; try rfl)) (PutSt_Q _ _ _ _ _ _ _ (HW2.out.mod Cx6.out (fun _ _ h => h)) (by intro k h1; rcases h1 with h1 | h1 <;> first | omega | (have hb := HBR.out k h1; omega)) (HRD.out.mod Cx6.out (fun _ _ h => h)) (by intro k h1; have hb := HBT.out k h1; omega) (by intro k h1 h2; rcases h1 with h1 | h1 <;> first | omega | (have hb := HBR.out k h1; omega) | (have hb := HBT.out k h2; omega) | exact HDJ.out k h1 h2 | exact HDJ.out k h2 h1 | (have hb := HBR.out k h1; have hb2 := HBT.out k h2; omega)) HLk.out) ?_
      rintro e u4_3 ⟨rfl, qwr, hm⟩
      refine ⟨_, rfl, ?_⟩
      have Hx7 := hid (qwr.widen (R' := (fun k => (R k) ∨ (New w wo k) ∨ (New u3_3 u4_3 k))) (by intro k h1; simp only [or_assoc] at h1 ⊢; exact h1) (Nat.le_refl _))
      have zu4_3 := hm.size
      have Cx8 := hid (show Mod (fun k => (R k) ∨ (New w wo k)) u3_3 u4_3 from hm)
      clear hm
      clear act E qwr HW2 ea19 ea20
      refine QSeq.nil (t' := [_, _, _, _]) rfl ?_
      obtain rfl := HA0.out
      clear HA0 oe0 oe2 oe7
      simp only [pz, Act.put, List.setIfInBounds_toArray, List.set_cons_zero, List.set_cons_succ]
      have hq := Hx7.out
      rw [HE.out] at hq
      have HQ := Lib.hid hq
      clear hq
      go_wp2
      go_roundw
      case rel => exact ⟨k + 1, by go_num, by omega, by omega, (HQ.out.widen (by intro b h1; rcases h1 with h1 | h1 | h1 <;> first | exact Or.inl h1 | (right; omega)) (Nat.le_refl _)), ((HS2.out.mod Cx6.out (fun _ _ h => h)).mod Cx8.out (by intro k h1 h2; rcases h2 with h2 | h2 <;> first | omega | (have hb := HBT.out k h1; omega) | (have hb := HBR.out k h2; omega) | exact HDJ.out k h1 h2 | exact HDJ.out k h2 h1 | (have hb := HBT.out k h1; have hb2 := HBR.out k h2; omega))), ((HM2.out.trans Cx6.out (fun _ _ h => h.elim)).trans Cx8.out (by intro k h1 h2; rcases h2 with h2 | h2 <;> first | exact h2 | omega | (have hb := HBR.out k h2; omega)))⟩
      case measure => simp [intOf]; omega
    · have hkk : k = l.length := by omega
      subst hkk
      go_wp2
      go_end0
      have hq := HW2.out
      rw [List.take_length] at hq
      exact ⟨rfl, hq, HM2.out⟩
set_option maxHeartbeats 4000000 in
theorem PutCe_Q : Puts CeR 98 ceB := by
  intro R R2 g bs cs x w hW hB hx hB2 hD hl
  obtain ⟨v_l, rfl, hok, hs0⟩ := hx
  have HS0 := Lib.hid hs0
  clear hs0
  have HW := Lib.hid hW
  have HBR := Lib.hid hB
  have HBT := Lib.hid hB2
  have HDJ := Lib.hid hD
  have HOK := Lib.hid hok
  have HL := Lib.hid hl
  clear hW hB hB2 hD hl hok
  unfold ceB at HL
  go_enter Try.func98, Try.ntmps98
  go_upto_region 1 with (fail)
  obtain ⟨w1, hw1⟩ : ∃ zz, zz = (w.alloc (.cells (x.cells v_l : List Value).toArray 52)) := ⟨_, rfl⟩
  change Code.wp _ _ _ _ (w.alloc (.cells (x.cells v_l : List Value).toArray 52))
  rw [← hw1]
  have HB3 := hid (show Cs w1 (w.heap.size) (x.cells v_l : List Value).toArray 52 by rw [hw1]; exact Cs.new _ _ _)
  have hm : Mod (fun _ => False) w w1 := by rw [hw1]; exact (Mod.refl _ _).alloc _
  have HM0 := hid (show Mod (fun k => (R k)) w w1 from hm.mono (fun _ _ h => h.elim))
  have hs1 : w1.heap.size = w.heap.size + 1 := by rw [hw1]; simp
  have Hx1 := hid (HW.out.mod hm (fun _ _ h => h))
  clear HW
  have Hx2 := hid (HS0.out.mod hm (fun _ _ h => h))
  clear HS0
  clear hw1 hm
  go_upto_region 1 with (fail)
  refine wp_region_U 12 [4, 5, 6, 7] [0, 1, 2, 3] (fun a0 HA0 => ?_)
  have oe0 := ev HA0 0 rfl
  have oe3 := ev HA0 3 rfl
  refine QSeq.pure rfl _ (fun E => ex_move rfl (E.v oe0)) ?_
  refine QSeq.pure rfl (.pointer (some ⟨w.heap.size, 0, none⟩)) (fun E => ex_field rfl Try.underlying52 rfl (by kernel_rfl) (E.v oe3)) ?_
  refine QSeq.pure rfl _ (fun E => ex_loadA rfl Try.underlying49 rfl (off := 0) (cs := x.c.cells) (by rw [Cm.len HOK.out.2.1]; exact size_commit) (E.d 1 0) (Cs.midA (pre := []) (mid := x.c.cells) (post := [v_l]) HB3.out rfl)) ?_
  refine QSeq.call rfl rfl Try.func139 (PutCm_Q _ (fun _ => False) _ _ _ _ _ Hx1.out (by intro k h1; have hb := HBR.out k h1; omega) ⟨rfl, HOK.out⟩ (fun _ h => h.elim) (fun _ _ h => h.elim) (by have := HL.out; simp only [List.length_append] at this ⊢; omega)) (fun E => args2 (E.d 0 2) (E.d 2 0)) ?_
  rintro e u1_3 ⟨rfl, qwr, hm⟩
  refine ⟨_, rfl, ?_⟩
  have Hx3 := hid (qwr.widen (R' := (fun k => (R k) ∨ (New w1 u1_3 k))) (fun _ h => h) (Nat.le_refl _))
  have zu1_3 := hm.size
  have Cx4 := hid (show Mod (fun k => (R k)) w1 u1_3 from hm)
  clear hm
  clear qwr Hx1
  refine QSeq.nil (t' := [_, _, _, _]) rfl ?_
  obtain rfl := HA0.out
  clear HA0 oe0 oe3
  simp only [pz, Act.put, List.setIfInBounds_toArray, List.set_cons_zero, List.set_cons_succ]
  go_upto_region 2 with (fail)
  refine wp_region_U 12 [8, 9, 10, 11] [0, 1, 2, 3] (fun a0 HA0 => ?_)
  have oe0 := ev HA0 0 rfl
  have oe3 := ev HA0 3 rfl
  refine QSeq.pure rfl _ (fun E => ex_move rfl (E.v oe0)) ?_
  refine QSeq.pure rfl (.pointer (some ⟨w.heap.size, 37, none⟩)) (fun E => ex_field rfl Try.underlying52 rfl (by kernel_rfl) (E.v oe3)) ?_
  refine QSeq.pure rfl _ (fun E => ex_load1 rfl Try.underlying50 rfl (E.d 1 0) (Cs.post1 (pre := []) (mid := x.c.cells) (post := [v_l]) (m := 37) (k := 0) (HB3.out.mod Cx4.out (by intro h2; first | omega | (have hb := HBR.out _ h2; omega))) (Cm.len HOK.out.2.1) rfl rfl)) ?_
  refine QSeq.call rfl rfl Try.func140 (PutList_St _ _ _ _ _ _ _ Hx3.out (by intro k h1; rcases h1 with h1 | h1 <;> first | omega | (have hb := HBR.out k h1; omega)) (Hx2.out.mod Cx4.out (by intro k h1 h2; first | omega | (have hb := HBT.out k h1; omega) | (have hb := HBR.out k h2; omega) | exact HDJ.out k h1 h2 | exact HDJ.out k h2 h1 | (have hb := HBT.out k h1; have hb2 := HBR.out k h2; omega))) (by intro k h1; have hb := HBT.out k h1; omega) (by intro k h1 h2; rcases h1 with h1 | h1 <;> first | omega | (have hb := HBR.out k h1; omega) | (have hb := HBT.out k h2; omega) | exact HDJ.out k h1 h2 | exact HDJ.out k h2 h1 | (have hb := HBR.out k h1; have hb2 := HBT.out k h2; omega)) (by have := HL.out; simp only [List.length_append] at this ⊢; omega)) (fun E => args3 (E.d 0 2) (E.d 2 0) rfl) ?_
  rintro e u2_3 ⟨rfl, qwr, hm⟩
  refine ⟨_, rfl, ?_⟩
  have Hx5 := hid (qwr.widen (R' := (fun k => (R k) ∨ (New w1 u1_3 k) ∨ (New u1_3 u2_3 k))) (by intro k h1; simp only [or_assoc] at h1 ⊢; exact h1) (Nat.le_refl _))
  have zu2_3 := hm.size
  have Cx6 := hid (show Mod (fun k => (R k) ∨ (New w1 u1_3 k)) u1_3 u2_3 from hm)
  clear hm
  clear qwr Hx3
  refine QSeq.nil (t' := [_, _, _, _]) rfl ?_
  obtain rfl := HA0.out
  clear HA0 oe0 oe3
  simp only [pz, Act.put, List.setIfInBounds_toArray, List.set_cons_zero, List.set_cons_succ]
  go_wp2
  go_end0
  have hq := (Hx5.out.widen (R' := (fun k => R k ∨ New w u2_3 k)) (by intro k h1; rcases h1 with h1 | h1 | h1 <;> first | exact Or.inl h1 | (right; omega)) (Nat.le_refl _))
  simp only [List.append_assoc] at hq
  exact ⟨rfl, by simpa only [ceB, List.append_assoc] using hq, ((HM0.out.trans Cx4.out (fun _ _ h => h)).trans Cx6.out (by intro k h1 h2; rcases h2 with h2 | h2 <;> first | exact h2 | omega | (have hb := HBR.out k h2; omega)))⟩
end Go.Proofs.Ytknpapcfhnhheaa

/- What the readers of parts answer, in plain words; that what was put is read as it was, and that what is read was put so. -/
namespace Go.Proofs.Ytknpapcfhnhheaa
open Go Go.RowKit Go.Gv

/-- one read behind the other -/
def gb {α β : Type} (g : RSt → α × RSt) (k : α → RSt → β × RSt) (s : RSt) : β × RSt := k (g s).1 (g s).2
/-- a number up to 2^40 -/
def gI (s : RSt) : Int × RSt := (((rInt 1099511627776 s).1 : Nat), (rInt 1099511627776 s).2)
def gItems {α : Type} (g : RSt → α × RSt) : Nat → List α → RSt → List α × RSt
  | 0, acc, s => (acc, s)
  | n + 1, acc, s => if (g s).2 = none then ([], none) else gItems g n (acc ++ [(g s).1]) (g s).2
def gList {α : Type} (g : RSt → α × RSt) (s : RSt) : List α × RSt := gItems g (rInt 100 s).1 [] (rInt 100 s).2
def gSig : RSt → (Int × Int) × RSt := gb gI fun a => gb gI fun b s => ((a, b), s)
def gCm : RSt → Cm × RSt := gb gSig fun n => gb rHash fun h => gb gI fun l => gb gSig fun g s => (⟨n.1, n.2, h, l, g.1, g.2⟩, s)
def gSt : RSt → St × RSt := gb gI fun p => gb gSig fun n => gb rHash fun h => gb rNum fun t => gb gSig fun g s => (⟨p, n.1, n.2, h, t, g.1, g.2⟩, s)
def gCe : RSt → Ce × RSt := gb gCm fun c => gb (gList gSt) fun l s => (⟨c, l⟩, s)
def gPm : RSt → Pm × RSt := gb gI fun p => gb gI fun e => gb rNum fun f => gb (gList gCe) fun l => gb gSig fun g s => (⟨p, e, f, l, g.1, g.2⟩, s)
def gOp : RSt → Op × RSt := gb gI fun i => gb (rRow 256) fun p => gb rHash fun h s => (⟨i, p, h⟩, s)
def gDn : RSt → Dn × RSt := gb gI fun p => gb gI fun i => gb gSig fun g s => (⟨p, i, g.1, g.2⟩, s)
def gTb : RSt → Tb × RSt := gb gI fun i => gb (gList gDn) fun l s => (⟨i, l⟩, s)
def gBa : RSt → Ba × RSt := gb gI fun e => gb rNum fun t => gb (gList gPm) fun p => gb (gList gOp) fun o => gb (gList gTb) fun m s => (⟨e, t, p, o, m⟩, s)
/-- what was put is read as it was -/
def Ed {α : Type} (g : RSt → α × RSt) (put : α → List Int) (ok : α → Prop) : Prop := ∀ x r, ok x → g (some (put x ++ r)) = (x, some r)
/-- what is read was put so -/
def De {α : Type} (g : RSt → α × RSt) (Q : α → List Int → List Int → Prop) : Prop := ∀ s r, (g s).2 = some r → ∃ l, s = some l ∧ (Bytes l → Q (g s).1 l r)
def Was {α : Type} (put : α → List Int) (ok : α → Prop) (x : α) (l r : List Int) : Prop := l = put x ++ r ∧ ok x
/-- the numbers that are read -/
def UpI (x : Int) : Prop := 0 ≤ x ∧ x ≤ 1099511627776
theorem gI_ed : Ed gI encI UpI := by
  intro x r h
  obtain ⟨h0, h1⟩ := h
  obtain ⟨n, rfl⟩ := Int.eq_ofNat_of_zero_le h0
  unfold gI
  rw [encI_nat, rInt_enc (by unfold U64; omega), if_neg (by omega)]
theorem rNum_ed : Ed rNum encN (· < U64) := fun x r h => rNum_enc h r
theorem rHash_ed : Ed rHash (fun h => h) (fun h => h.length = 32) := fun x r h => rHash_app h r
theorem rRow_ed (most : Int) (hm : most ≤ 1000000) : Ed (rRow most) (fun b => encN b.length ++ b) (fun b => (b.length : Int) ≤ most) := by
  intro x r h
  have := rRow_enc (bs := x) (by unfold U64; omega) most r
  rw [if_neg (by omega)] at this
  simpa only [List.append_assoc] using this
theorem dec_can : ∀ (l : List Int) (i acc n : Nat) (r : List Int), Bytes l → decGo i acc l = some (n, r) → ∃ m, l = encN m ++ r ∧ n = acc + m * 2 ^ (7 * i) ∧ (0 < i → 1 ≤ m) := by
  intro l
  induction l with
  | nil => intro i acc n r _ h; cases h
  | cons c cs ih =>
    intro i acc n r hb h
    have hc := hb c (List.mem_cons_self ..)
    rw [decGo] at h
    by_cases h1 : i = 9 ∧ 1 < c
    · rw [if_pos h1] at h; cases h
    · rw [if_neg h1] at h
      by_cases h2 : c < 128
      · rw [if_pos h2] at h
        by_cases h3 : c = 0 ∧ 0 < i
        · rw [if_pos h3] at h; cases h
        · rw [if_neg h3] at h
          simp only [Option.some.injEq, Prod.mk.injEq] at h
          obtain ⟨rfl, rfl⟩ := h
          exact ⟨c.toNat, by rw [encN_lt (by omega), Int.toNat_of_nonneg hc.1]; rfl, rfl, fun hi => by omega⟩
      · rw [if_neg h2] at h
        obtain ⟨m, e1, e2, e3⟩ := ih (i + 1) _ n r (fun x hx => hb x (List.mem_cons_of_mem _ hx)) h
        have e3 := e3 (by omega)
        refine ⟨(c.toNat - 128) + 128 * m, ?_, ?_, fun _ => by omega⟩
        · rw [encN_ge (by omega), show (c.toNat - 128 + 128 * m) / 128 = m by omega, show (((c.toNat - 128 + 128 * m : Nat) : Int) % 128 + 128) = c by omega, e1]
          rfl
        · rw [e2, pow128, Nat.add_mul, Nat.add_assoc, Nat.mul_comm 128 m, Nat.mul_assoc m]
theorem rNum_de : De rNum (Was encN (· < U64)) := by
  intro s r h
  cases s with
  | none => cases h
  | some l =>
    refine ⟨l, rfl, fun hb => ?_⟩
    have hlt := rNum_lt (s := some l) hb
    unfold Was
    revert h hlt
    cases hd : decGo 0 0 l with
    | none => rw [rNum_none hd]; intro h; cases h
    | some p =>
      obtain ⟨n, q⟩ := p
      rw [rNum_some hd]
      intro h hlt
      cases h
      obtain ⟨m, e1, e2, -⟩ := dec_can l 0 0 n _ hb hd
      have : n = m := by rw [e2]; simp
      subst this
      exact ⟨e1, hlt⟩
theorem rInt_de (most : Int) (hm : 0 ≤ most) : De (rInt most) (Was encN (fun n => (n : Int) ≤ most)) := by
  intro s r h
  unfold rInt at h ⊢
  by_cases hc : (rNum s).2.isNone ∨ most < 0 ∨ most < (rNum s).1
  · rw [if_pos hc] at h; cases h
  · rw [if_neg hc] at h ⊢
    obtain ⟨l, rfl, h2⟩ := rNum_de s r h
    exact ⟨l, rfl, fun hb => ⟨(h2 hb).1, by simp only [not_or] at hc; omega⟩⟩
theorem gI_de : De gI (Was encI UpI) := by
  intro s r h
  obtain ⟨l, rfl, h2⟩ := rInt_de 1099511627776 (by decide) s r h
  refine ⟨l, rfl, fun hb => ?_⟩
  obtain ⟨h3, h4⟩ := h2 hb
  exact ⟨by unfold gI; rw [encI_nat]; exact h3, by unfold gI UpI; exact ⟨by simp, h4⟩⟩
theorem rTake_de (n : Nat) : ∀ s r, (rTake n s).2 = some r → ∃ l, s = some l ∧ l = (rTake n s).1 ++ r ∧ (rTake n s).1.length = n := by
  intro s r h
  cases s with
  | none => cases h
  | some l =>
    refine ⟨l, rfl, ?_⟩
    simp only [rTake] at h ⊢
    split at h
    · cases h
    · rename_i hlt
      rw [if_neg hlt]
      simp only [Option.some.injEq] at h
      subst h
      exact ⟨(List.take_append_drop _ _).symm, by simp; omega⟩
theorem rHash_de : De rHash (Was (fun h => h) HK) := by
  intro s r h
  unfold rHash at h ⊢
  have h2 := rTake_de 32 s
  revert h h2
  generalize rTake 32 s = p
  obtain ⟨b, q⟩ := p
  cases q with
  | none => intro h; cases h
  | some q =>
    intro h h2
    cases h
    obtain ⟨l, rfl, e1, e2⟩ := h2 _ rfl
    refine ⟨l, rfl, fun hb => ⟨e1, e2, fun x hx => hb x ?_⟩⟩
    rw [e1]
    exact List.mem_append_left _ hx
theorem De.bind {α β : Type} {g : RSt → α × RSt} {k : α → RSt → β × RSt} {put : α → List Int} {ok : α → Prop} {Q : α → β → List Int → List Int → Prop} (hg : De g (Was put ok)) (hk : ∀ a, De (k a) (Q a)) :
    De (gb g k) (fun y l r => ∃ a l1, ok a ∧ l = put a ++ l1 ∧ Q a y l1 r) := by
  intro s r h
  obtain ⟨l1, e1, h1⟩ := hk _ _ _ h
  obtain ⟨l, rfl, h2⟩ := hg _ _ e1
  refine ⟨l, rfl, fun hb => ?_⟩
  obtain ⟨h3, h4⟩ := h2 hb
  refine ⟨_, l1, h4, h3, h1 (fun x hx => hb x ?_)⟩
  rw [h3]
  exact List.mem_append_right _ hx
theorem De.pure {β : Type} (y : β) : De (fun s => (y, s)) (fun y' l r => y' = y ∧ l = r) := by
  intro s r h
  exact ⟨r, h, fun _ => ⟨rfl, rfl⟩⟩
theorem De.mono {β : Type} {g : RSt → β × RSt} {Q Q' : β → List Int → List Int → Prop} (h : De g Q) (hq : ∀ y l r, Q y l r → Q' y l r) : De g Q' := by
  intro s r hr
  obtain ⟨l, e, h2⟩ := h s r hr
  exact ⟨l, e, fun hb => hq _ _ _ (h2 hb)⟩
/-- lists -/
def listOk {α : Type} (ok : α → Prop) (l : List α) : Prop := l.length ≤ 100 ∧ ∀ a ∈ l, ok a
theorem gItems_ed {α : Type} {g : RSt → α × RSt} {put : α → List Int} {ok : α → Prop} (h : Ed g put ok) : ∀ (l acc : List α) (r : List Int), (∀ a ∈ l, ok a) → gItems g l.length acc (some ((l.map put).flatten ++ r)) = (acc ++ l, some r) := by
  intro l
  induction l with
  | nil => intro acc r _; simp [gItems]
  | cons a l ih =>
    intro acc r ha
    simp only [List.length_cons, List.map_cons, List.flatten_cons, List.append_assoc, gItems]
    rw [h a _ (ha a (List.mem_cons_self ..)), if_neg (by simp), ih _ _ (fun b hb => ha b (List.mem_cons_of_mem _ hb))]
    simp
theorem gList_ed {α : Type} {g : RSt → α × RSt} {put : α → List Int} {ok : α → Prop} (h : Ed g put ok) : Ed (gList g) (listB put) (listOk ok) := by
  intro l r ⟨h1, h2⟩
  unfold gList listB
  rw [List.append_assoc, encI_nat, rInt_enc (by unfold U64; omega), if_neg (by omega)]
  simpa using gItems_ed h l [] r h2
theorem gList_long {α : Type} {g : RSt → α × RSt} (put : α → List Int) (l : List α) (h : 100 < l.length) (hl : l.length < U64) (r : List Int) : gList g (some (listB put l ++ r)) = ([], none) := by
  unfold gList listB
  rw [List.append_assoc, encI_nat, rInt_enc hl, if_pos (by omega)]
  rfl
theorem De.none {α : Type} {g : RSt → α × RSt} {Q : α → List Int → List Int → Prop} (h : De g Q) : ∀ s, s = none → (g s).2 = none := by
  intro s e
  cases hq : (g s).2 with
  | none => rfl
  | some r => obtain ⟨l, e2, -⟩ := h s r hq; rw [e] at e2; cases e2
theorem gItems_de {α : Type} {g : RSt → α × RSt} {put : α → List Int} {ok : α → Prop} (h : De g (Was put ok)) : ∀ (n : Nat) (acc : List α) (s : RSt) (r : List Int), (gItems g n acc s).2 = some r →
    ∃ l, s = some l ∧ (Bytes l → ∃ t, (gItems g n acc s).1 = acc ++ t ∧ t.length = n ∧ l = (t.map put).flatten ++ r ∧ ∀ a ∈ t, ok a) := by
  intro n
  induction n with
  | zero =>
    intro acc s r hs
    exact ⟨r, hs, fun _ => ⟨[], by simp [gItems], rfl, rfl, by simp⟩⟩
  | succ n ih =>
    intro acc s r hs
    simp only [gItems] at hs ⊢
    by_cases hc : (g s).2 = none
    · rw [if_pos hc] at hs; cases hs
    · rw [if_neg hc] at hs ⊢
      obtain ⟨l1, e1, h1⟩ := ih _ _ _ hs
      obtain ⟨l, rfl, h2⟩ := h _ _ e1
      refine ⟨l, rfl, fun hb => ?_⟩
      obtain ⟨h3, h4⟩ := h2 hb
      obtain ⟨t, q1, q2, q3, q4⟩ := h1 (fun x hx => hb x (by rw [h3]; exact List.mem_append_right _ hx))
      refine ⟨(g (some l)).1 :: t, by rw [q1]; simp, by simp [q2], ?_, ?_⟩
      · rw [List.map_cons, List.flatten_cons, List.append_assoc, ← q3]; exact h3
      · intro a ha
        rcases List.mem_cons.1 ha with rfl | ha
        · exact h4
        · exact q4 a ha
theorem gList_de {α : Type} {g : RSt → α × RSt} {put : α → List Int} {ok : α → Prop} (h : De g (Was put ok)) : De (gList g) (Was (listB put) (listOk ok)) := by
  intro s r hs
  unfold gList at hs ⊢
  obtain ⟨l1, e1, h1⟩ := gItems_de h _ _ _ _ hs
  obtain ⟨l, rfl, h2⟩ := rInt_de 100 (by decide) _ _ e1
  refine ⟨l, rfl, fun hb => ?_⟩
  obtain ⟨h3, h4⟩ := h2 hb
  obtain ⟨t, q1, q2, q3, q4⟩ := h1 (fun x hx => hb x (by rw [h3]; exact List.mem_append_right _ hx))
  rw [List.nil_append] at q1
  rw [q1]
  refine ⟨?_, by omega, q4⟩
  unfold listB
  rw [q2, encI_nat, List.append_assoc, ← q3]
  exact h3
/-! printed -/
def sgB (p : Int × Int) : List Int := encI p.1 ++ encI p.2
def sgOk (p : Int × Int) : Prop := UpI p.1 ∧ UpI p.2
def CmOk (x : Cm) : Prop := UpI x.cl ∧ UpI x.sq ∧ HK x.h ∧ UpI x.ln ∧ UpI x.sb ∧ UpI x.mr
def StOk (x : St) : Prop := UpI x.rp ∧ UpI x.cl ∧ UpI x.sq ∧ HK x.h ∧ x.tm < U64 ∧ UpI x.sb ∧ UpI x.mr
def CeOk (x : Ce) : Prop := CmOk x.c ∧ listOk StOk x.l
def PmOk (x : Pm) : Prop := UpI x.rp ∧ UpI x.ep ∧ x.fl < U64 ∧ listOk CeOk x.l ∧ UpI x.sb ∧ UpI x.mr
def OpOk (x : Op) : Prop := UpI x.ix ∧ (x.pl.length : Int) ≤ 256 ∧ HK x.nc
def DnOk (x : Dn) : Prop := UpI x.rp ∧ UpI x.ix ∧ UpI x.sb ∧ UpI x.mr
def TbOk (x : Tb) : Prop := UpI x.ix ∧ listOk DnOk x.l
def BaOk (x : Ba) : Prop := UpI x.ep ∧ x.tm < U64 ∧ listOk PmOk x.ps ∧ listOk OpOk x.os ∧ listOk TbOk x.ts
theorem gSig_ed : Ed gSig sgB sgOk := by
  intro x r ⟨h1, h2⟩
  simp only [gSig, gb, sgB, List.append_assoc, gI_ed _ _ h1, gI_ed _ _ h2]
theorem gSig_de : De gSig (Was sgB sgOk) := by
  refine (De.bind gI_de fun a => De.bind gI_de fun b => De.pure _).mono ?_
  rintro y l r ⟨a, l1, ha, rfl, b, l2, hb, rfl, rfl, rfl⟩
  exact ⟨by simp only [sgB, List.append_assoc], ha, hb⟩
theorem sgB_sig (a b : Int) : sgB (a, b) = sigB a b := rfl
theorem sgB_name (a b : Int) : sgB (a, b) = nameB a b := rfl
theorem gCm_ed : Ed gCm cmB CmOk := by
  intro x r h
  obtain ⟨hc, hs, hh, hl, hb, hm⟩ := h
  simp only [gCm, gb, cmB, ← sgB_sig, ← sgB_name, List.append_assoc, gSig_ed (x.cl, x.sq) _ ⟨hc, hs⟩, rHash_ed _ _ hh.1, gI_ed _ _ hl, gSig_ed (x.sb, x.mr) _ ⟨hb, hm⟩]
theorem gSt_ed : Ed gSt stB StOk := by
  intro x r h
  obtain ⟨hr, hc, hs, hh, ht, hb, hm⟩ := h
  simp only [gSt, gb, stB, ← sgB_sig, ← sgB_name, List.append_assoc, gI_ed _ _ hr, gSig_ed (x.cl, x.sq) _ ⟨hc, hs⟩, rHash_ed _ _ hh.1, rNum_ed _ _ ht, gSig_ed (x.sb, x.mr) _ ⟨hb, hm⟩]
theorem gCe_ed : Ed gCe ceB CeOk := by
  intro x r h
  obtain ⟨hc, hl⟩ := h
  simp only [gCe, gb, ceB, ← sgB_sig, ← sgB_name, List.append_assoc, gCm_ed _ _ hc, gList_ed gSt_ed _ _ hl]
theorem gPm_ed : Ed gPm pmB PmOk := by
  intro x r h
  obtain ⟨hr, he, hf, hl, hb, hm⟩ := h
  simp only [gPm, gb, pmB, ← sgB_sig, ← sgB_name, List.append_assoc, gI_ed _ _ hr, gI_ed _ _ he, rNum_ed _ _ hf, gList_ed gCe_ed _ _ hl, gSig_ed (x.sb, x.mr) _ ⟨hb, hm⟩]
theorem rowx {b r : List Int} (h : (b.length : Int) ≤ 256) : rRow 256 (some (encN b.length ++ (b ++ r))) = (b, some r) := by
  have := rRow_ed 256 (by decide) b r h
  simpa only [List.append_assoc] using this
theorem gOp_ed : Ed gOp opB OpOk := by
  intro x r h
  obtain ⟨hi, hp, hn⟩ := h
  simp only [gOp, gb, opB, ← sgB_sig, ← sgB_name, List.append_assoc, gI_ed _ _ hi, rowx hp, rHash_ed _ _ hn.1]
theorem gDn_ed : Ed gDn dnB DnOk := by
  intro x r h
  obtain ⟨hr, hi, hb, hm⟩ := h
  simp only [gDn, gb, dnB, ← sgB_sig, ← sgB_name, List.append_assoc, gI_ed _ _ hr, gI_ed _ _ hi, gSig_ed (x.sb, x.mr) _ ⟨hb, hm⟩]
theorem gDn_de : De gDn (Was dnB DnOk) := by
  refine (De.bind gI_de fun _ => De.bind gI_de fun _ => De.bind gSig_de fun _ => De.pure _).mono ?_
  rintro y l r ⟨a0, l0, h0, rfl, a1, l1, h1, rfl, a2, l2, h2, rfl, rfl, rfl⟩
  refine ⟨by simp only [dnB, ← sgB_sig, ← sgB_name, List.append_assoc], h0, h1, h2.1, h2.2⟩
theorem gTb_ed : Ed gTb tbB TbOk := by
  intro x r h
  obtain ⟨hi, hl⟩ := h
  simp only [gTb, gb, tbB, ← sgB_sig, ← sgB_name, List.append_assoc, gI_ed _ _ hi, gList_ed gDn_ed _ _ hl]
theorem gTb_de : De gTb (Was tbB TbOk) := by
  refine (De.bind gI_de fun _ => De.bind (gList_de gDn_de) fun _ => De.pure _).mono ?_
  rintro y l r ⟨a0, l0, h0, rfl, a1, l1, h1, rfl, rfl, rfl⟩
  refine ⟨by simp only [tbB, ← sgB_sig, ← sgB_name, List.append_assoc], h0, h1⟩
theorem gBa_ed : Ed gBa baB BaOk := by
  intro x r h
  obtain ⟨he, ht, hp, ho, hb⟩ := h
  simp only [gBa, gb, baB, ← sgB_sig, ← sgB_name, List.append_assoc, gI_ed _ _ he, rNum_ed _ _ ht, gList_ed gPm_ed _ _ hp, gList_ed gOp_ed _ _ ho, gList_ed gTb_ed _ _ hb]
end Go.Proofs.Ytknpapcfhnhheaa

/- gavelref01.Reader: numbers, rows, hashes as the document reads them; code.Reader.Row for any bound. -/
namespace Go.Proofs.Ytknpapcfhnhheaa
open Go Go.RowKit Go.Gv

end Go.Proofs.Ytknpapcfhnhheaa

/- gavelref01.Reader: rows. -/
namespace Go.Proofs.Ytknpapcfhnhheaa
open Go Go.RowKit Go.Gv

end Go.Proofs.Ytknpapcfhnhheaa

/- gavelref01.Reader: hashes. -/
namespace Go.Proofs.Ytknpapcfhnhheaa
open Go Go.RowKit Go.Gv

section
variable {R : Nat → Prop} {r : Nat} {s : RSt} {w : World}
end
end Go.Proofs.Ytknpapcfhnhheaa

/- code.Reader.Row with any bound, over a text that is not long. -/
namespace Go.Proofs.Ytknpapcfhnhheaa
open Go Go.RowKit Go.Gv

end Go.Proofs.Ytknpapcfhnhheaa

/- A block's cells as parts, one behind the other: what lies at a part, what is laid over one, what a struct is built of. No program here. -/
namespace Go.Gv
open Go Go.RowKit

theorem seg_get : ∀ (segs : List (List Value)) (i : Nat) {seg : List Value} (hs : segs[i]? = some seg) (j : Nat) (u : Value), seg[j]? = some u → segs.flatten[((segs.map List.length).take i).sum + j]? = some u
  | [], i, seg, hs, j, u, hu => by simp at hs
  | a :: r, 0, seg, hs, j, u, hu => by
    simp only [List.getElem?_cons_zero, Option.some.injEq] at hs
    subst hs
    rw [List.take_zero, List.sum_nil, Nat.zero_add, List.flatten_cons, List.getElem?_append_left (List.getElem?_eq_some_iff.1 hu).1]
    exact hu
  | a :: r, i + 1, seg, hs, j, u, hu => by
    rw [List.getElem?_cons_succ] at hs
    rw [List.map_cons, List.take_succ_cons, List.sum_cons, List.flatten_cons, List.getElem?_append_right (by omega), show a.length + ((r.map List.length).take i).sum + j - a.length = ((r.map List.length).take i).sum + j by omega]
    exact seg_get r i hs j u hu
theorem Cs.seg {w : World} {g : Nat} {T : TypeId} {segs : List (List Value)} (h : Cs w g segs.flatten.toArray T) {ns : List Nat} (hn : segs.map List.length = ns) (i : Nat) {seg : List Value} (hs : segs[i]? = some seg) {off : Nat} (ho : (ns.take i).sum = off) : ∀ j u, seg[j]? = some u → w.cell? ⟨g, off + j, none⟩ = some u := by
  intro j u hu
  rw [h.cell, ← ho, ← hn]
  simpa using seg_get segs i hs j u hu
theorem lay_mid (a m b : List Value) (vs : List Value) (h : vs.length = m.length) : lay (a ++ (m ++ b)).toArray a.length vs = (a ++ (vs ++ b)).toArray := by
  unfold lay
  congr 1
  simp [h]
theorem seg_split : ∀ (segs : List (List Value)) (i : Nat) {seg : List Value} (hs : segs[i]? = some seg), ∃ a b, segs.flatten = a ++ (seg ++ b) ∧ a.length = ((segs.map List.length).take i).sum ∧ ∀ v : List Value, (segs.set i v).flatten = a ++ (v ++ b)
  | [], i, seg, hs => by simp at hs
  | x :: r, 0, seg, hs => by
    simp only [List.getElem?_cons_zero, Option.some.injEq] at hs
    subst hs
    exact ⟨[], r.flatten, rfl, rfl, fun v => rfl⟩
  | x :: r, i + 1, seg, hs => by
    rw [List.getElem?_cons_succ] at hs
    obtain ⟨a, b, h1, h2, h3⟩ := seg_split r i hs
    refine ⟨x ++ a, b, by rw [List.flatten_cons, h1, List.append_assoc], by simp [h2], fun v => ?_⟩
    rw [List.set_cons_succ, List.flatten_cons, h3, List.append_assoc]
theorem lay_seg {segs : List (List Value)} {ns : List Nat} (hn : segs.map List.length = ns) (i : Nat) {vs : List Value} (hv : ns[i]? = some vs.length) {off : Nat} (ho : (ns.take i).sum = off) : lay segs.flatten.toArray off vs = ((segs.set i vs).flatten).toArray := by
  subst hn
  rw [List.getElem?_map] at hv
  cases hs : segs[i]? with
  | none => rw [hs] at hv; cases hv
  | some seg =>
    rw [hs] at hv
    simp only [Option.map_some, Option.some.injEq] at hv
    obtain ⟨a, b, h1, h2, h3⟩ := seg_split segs i hs
    rw [h1, h3, ← ho, ← h2]
    exact lay_mid a seg b vs hv.symm
/-- where parts of such lengths lie -/
def offs : Nat → List Nat → List (Nat × Nat)
  | _, [] => []
  | o, n :: ns => (o, n) :: offs (o + n) ns
theorem offs_get : ∀ (ns : List Nat) (o i : Nat), (offs o ns)[i]? = (ns[i]?).map fun n => (o + (ns.take i).sum, n)
  | [], o, i => by simp [offs]
  | n :: ns, o, 0 => by simp [offs]
  | n :: ns, o, i + 1 => by
    simp only [offs, List.getElem?_cons_succ, offs_get ns (o + n) i, List.take_succ_cons, List.sum_cons]
    congr 1
    funext m
    rw [Nat.add_assoc]
/-- parts, each where it belongs -/
def setAll : List (List Value) → List (Nat × Value) → List (List Value)
  | segs, [] => segs
  | segs, (i, v) :: ps => setAll (segs.set i v.cells.toList) ps
def PartsOk (ns : List Nat) : List (Nat × Value) → Prop
  | [] => True
  | (i, v) :: ps => ns[i]? = some v.cells.size ∧ PartsOk ns ps
theorem set_lens {segs : List (List Value)} {ns : List Nat} (hn : segs.map List.length = ns) (i : Nat) {vs : List Value} (hv : ns[i]? = some vs.length) : (segs.set i vs).map List.length = ns := by
  subst hn
  rw [List.map_set]
  exact List.ext_getElem? fun j => by
    rcases Nat.lt_trichotomy i j with h | h | h
    · rw [List.getElem?_set_ne (by omega)]
    · subst h
      rw [List.getElem?_set_self (List.getElem?_eq_some_iff.1 hv).1, hv]
    · rw [List.getElem?_set_ne (by omega)]
theorem laid_segs {places : List (Nat × Nat)} {ns : List Nat} (hp : places = offs 0 ns) : ∀ (parts : List (Nat × Value)) (segs : List (List Value)), segs.map List.length = ns → PartsOk ns parts → laid places segs.flatten parts = some (setAll segs parts).flatten
  | [], segs, _, _ => by unfold laid setAll; rfl
  | (i, v) :: ps, segs, hn, h => by
    obtain ⟨h1, h2⟩ := h
    have h1' : ns[i]? = some v.cells.toList.length := by simpa using h1
    have hl := lay_seg hn i h1' rfl
    unfold laid setAll
    rw [hp, offs_get, h1]
    simp only [Option.map_some, Nat.zero_add]
    have hlen : (ns.take i).sum + v.cells.size ≤ segs.flatten.length := by
      subst hn
      rw [List.getElem?_map] at h1
      cases hs : segs[i]? with
      | none => rw [hs] at h1; cases h1
      | some seg =>
        rw [hs] at h1
        simp only [Option.map_some, Option.some.injEq] at h1
        obtain ⟨a, b, e1, e2, -⟩ := seg_split segs i hs
        rw [e1, ← e2, ← h1]
        simp
    rw [if_neg (by omega)]
    have e : (segs.flatten.take (ns.take i).sum ++ v.cells.toList ++ segs.flatten.drop ((ns.take i).sum + v.cells.size)) = (segs.set i v.cells.toList).flatten := by
      have := congrArg Array.toList hl
      simpa [lay] using this
    simp only [e] at *
    rw [← hp]
    exact laid_segs hp ps _ (set_lens hn i h1') h2
end Go.Gv

/- Readers of parts: what they leave of a text, whether what they read is a thing of its kind; contracts. -/
namespace Go.Proofs.Ytknpapcfhnhheaa
open Go Go.RowKit Go.Gv

/-- what is left is an end of what there was -/
def Suf {α : Type} (g : RSt → α × RSt) : Prop := ∀ s, (g s).2 = none ∨ ∃ l k, s = some l ∧ (g s).2 = some (l.drop k)
theorem Suf.no {α : Type} {g : RSt → α × RSt} (h : Suf g) : (g none).2 = none := by
  rcases h none with h | ⟨l, k, e, -⟩
  · exact h
  · cases e
theorem Suf.bytes {α : Type} {g : RSt → α × RSt} (h : Suf g) {s : RSt} (hb : Bytes (s.getD [])) : Bytes ((g s).2.getD []) := by
  rcases h s with e | ⟨l, k, rfl, e⟩
  · rw [e]; exact Bytes.nil
  · rw [e]; exact Bytes.drop hb k
theorem Suf.len {α : Type} {g : RSt → α × RSt} (h : Suf g) (s : RSt) : ((g s).2.getD []).length ≤ (s.getD []).length := by
  rcases h s with e | ⟨l, k, rfl, e⟩
  · rw [e]; simp
  · rw [e]; simp
theorem gb_suf {α β : Type} {g : RSt → α × RSt} {k : α → RSt → β × RSt} (hg : Suf g) (hk : ∀ a, Suf (k a)) : Suf (gb g k) := by
  intro s
  rcases hg s with e | ⟨l, i, rfl, e⟩
  · left
    unfold gb
    rw [e]
    exact (hk _).no
  · rcases hk (g (some l)).1 (g (some l)).2 with e2 | ⟨l2, j, e2, e3⟩
    · exact Or.inl e2
    · rw [e] at e2
      cases e2
      exact Or.inr ⟨l, i + j, rfl, by rw [← List.drop_drop]; exact e3⟩
theorem pure_suf {β : Type} (y : β) : Suf (fun s => (y, s)) := by
  intro s
  cases s with
  | none => exact Or.inl rfl
  | some l => exact Or.inr ⟨l, 0, rfl, rfl⟩
theorem rNum_suf : Suf rNum := by
  intro s
  cases s with
  | none => exact Or.inl rfl
  | some l =>
    cases hd : decGo 0 0 l with
    | none => rw [rNum_none hd]; exact Or.inl rfl
    | some p =>
      obtain ⟨n, q⟩ := p
      obtain ⟨k, -, -, rfl⟩ := decGo_rest l 0 0 n q hd
      rw [rNum_some hd]
      exact Or.inr ⟨l, k, rfl, rfl⟩
theorem rInt_suf (most : Int) : Suf (rInt most) := by
  intro s
  unfold rInt
  split
  · exact Or.inl rfl
  · exact rNum_suf s
theorem gI_suf : Suf gI := fun s => rInt_suf _ s
theorem rTake_suf (n : Nat) : Suf (rTake n) := by
  intro s
  cases s with
  | none => exact Or.inl rfl
  | some l =>
    simp only [rTake]
    split
    · exact Or.inl rfl
    · exact Or.inr ⟨l, n, rfl, rfl⟩
theorem rHash_suf : Suf rHash := by
  intro s
  have h := rTake_suf 32 s
  unfold rHash
  revert h
  generalize rTake 32 s = p
  obtain ⟨b, q⟩ := p
  cases q with
  | none => intro _; exact Or.inl rfl
  | some q => intro h; exact h
theorem rRow_suf (most : Int) : Suf (rRow most) := by
  intro s
  unfold rRow
  exact gb_suf (g := rInt most) (k := fun n => rTake n) (rInt_suf most) (fun n => rTake_suf n) s
theorem gItems_suf {α : Type} {g : RSt → α × RSt} (hg : Suf g) : ∀ (n : Nat) (acc : List α), Suf (gItems g n acc)
  | 0, acc => pure_suf acc
  | n + 1, acc => by
    intro s
    simp only [gItems]
    split
    · exact Or.inl rfl
    · exact gb_suf hg (fun a => gItems_suf hg n (acc ++ [a])) s
theorem gList_suf {α : Type} {g : RSt → α × RSt} (hg : Suf g) : Suf (gList g) := by
  intro s
  exact gb_suf (g := rInt 100) (k := fun n => gItems g n []) (rInt_suf 100) (fun n => gItems_suf hg n []) s
theorem gSig_suf : Suf gSig := gb_suf gI_suf fun _ => gb_suf gI_suf fun _ => pure_suf _
theorem gCm_suf : Suf gCm := gb_suf gSig_suf fun _ => gb_suf rHash_suf fun _ => gb_suf gI_suf fun _ => gb_suf gSig_suf fun _ => pure_suf _
theorem gSt_suf : Suf gSt := gb_suf gI_suf fun _ => gb_suf gSig_suf fun _ => gb_suf rHash_suf fun _ => gb_suf rNum_suf fun _ => gb_suf gSig_suf fun _ => pure_suf _
theorem gCe_suf : Suf gCe := gb_suf gCm_suf fun _ => gb_suf (gList_suf gSt_suf) fun _ => pure_suf _
theorem gPm_suf : Suf gPm := gb_suf gI_suf fun _ => gb_suf gI_suf fun _ => gb_suf rNum_suf fun _ => gb_suf (gList_suf gCe_suf) fun _ => gb_suf gSig_suf fun _ => pure_suf _
theorem gOp_suf : Suf gOp := gb_suf gI_suf fun _ => gb_suf (rRow_suf _) fun _ => gb_suf rHash_suf fun _ => pure_suf _
theorem gDn_suf : Suf gDn := gb_suf gI_suf fun _ => gb_suf gI_suf fun _ => gb_suf gSig_suf fun _ => pure_suf _
theorem gTb_suf : Suf gTb := gb_suf gI_suf fun _ => gb_suf (gList_suf gDn_suf) fun _ => pure_suf _
/-! what is read is a thing -/
theorem gI_I64 (s : RSt) : I64 (gI s).1 := by
  have := rInt_le 1099511627776 s
  unfold gI I64
  simp only
  omega
theorem rHash_HK {s : RSt} (hb : Bytes (s.getD [])) : HK (rHash s).1 := by
  refine ⟨rHash_l s, ?_⟩
  cases s with
  | none => intro x hx; simp [rHash, rTake] at hx; subst hx; decide
  | some l =>
    by_cases h : l.length < 32
    · have e : rHash (some l) = (List.replicate 32 0, none) := by simp [rHash, rTake, h]
      rw [e]
      intro x hx
      simp at hx
      subst hx
      decide
    · have e : rHash (some l) = (l.take 32, some (l.drop 32)) := by simp [rHash, rTake, h]
      rw [e]
      exact Bytes.take hb 32
theorem gCm_OK {s : RSt} (hb : Bytes (s.getD [])) : (gCm s).1.OK := ⟨⟨gI_I64 _, gI_I64 _, gI_I64 _, gI_I64 _, gI_I64 _⟩, rHash_HK (gSig_suf.bytes hb)⟩
theorem gSt_OK {s : RSt} (hb : Bytes (s.getD [])) : (gSt s).1.OK := ⟨gI_I64 _, gI_I64 _, gI_I64 _, rHash_HK (gSig_suf.bytes (gI_suf.bytes hb)), rNum_lt (rHash_suf.bytes (gSig_suf.bytes (gI_suf.bytes hb))), gI_I64 _, gI_I64 _⟩
theorem gDn_OK {s : RSt} (hb : Bytes (s.getD [])) : (gDn s).1.OK := ⟨gI_I64 _, gI_I64 _, gI_I64 _, gI_I64 _⟩
theorem gCe_OK {s : RSt} (hb : Bytes (s.getD [])) : (gCe s).1.OK := gCm_OK hb
theorem gPm_OK {s : RSt} (hb : Bytes (s.getD [])) : (gPm s).1.OK := ⟨gI_I64 _, gI_I64 _, rNum_lt (gI_suf.bytes (gI_suf.bytes hb)), gI_I64 _, gI_I64 _⟩
theorem gOp_OK {s : RSt} (hb : Bytes (s.getD [])) : (gOp s).1.OK := ⟨gI_I64 _, rHash_HK ((rRow_suf 256).bytes (gI_suf.bytes hb))⟩
theorem gTb_OK {s : RSt} (hb : Bytes (s.getD [])) : (gTb s).1.OK := gI_I64 _
theorem gBa_OK {s : RSt} (hb : Bytes (s.getD [])) : (gBa s).1.OK := ⟨gI_I64 _, rNum_lt (gI_suf.bytes hb)⟩
theorem RrR.bytes {T : TypeId} {R : Nat → Prop} {w : World} {r : Nat} {s : RSt} (h : RrR T R w r s) : Bytes (s.getD []) := by
  obtain ⟨v, h1, -⟩ := h
  exact h1.2.1.1
theorem szv {cs : List Value} {n : Nat} (h : cs.length = n) : some n = some (Value.agg cs.toArray).cells.size := by rw [← h]; rfl
/-! contracts -/
/-- a flat thing is read -/
def GetsF {α : Type} (T : TypeId) (F : FuncId) (cells : α → List Value) (g : RSt → α × RSt) : Prop := ∀ (R : Nat → Prop) (r : Nat) (s : RSt) (w : World), RrR T R w r s → (∀ k, R k → k < w.heap.size) →
  Calls Try.prog F #[.pointer (some ⟨r, 0, none⟩)] w fun e w' => e = .returned (.agg (cells (g s).1).toArray) ∧ RrR T R w' r (g s).2 ∧ Mod R w w'
/-- a thing is read -/
def Gets {α : Type} (A : Rep α) (T : TypeId) (F : FuncId) (g : RSt → α × RSt) : Prop := ∀ (R : Nat → Prop) (r : Nat) (s : RSt) (w : World), RrR T R w r s → (∀ k, R k → k < w.heap.size) → (s.getD []).length ≤ 900000 →
  Calls Try.prog F #[.pointer (some ⟨r, 0, none⟩)] w fun e w' => ∃ cs, e = .returned (.agg cs.toArray) ∧ A.rd (New w w') w' cs (g s).1 ∧ RrR T R w' r (g s).2 ∧ Mod R w w'
/-- a list of things is read -/
def GetsL {α : Type} (A : Rep α) (T : TypeId) (F Fe : FuncId) (g : RSt → α × RSt) : Prop := ∀ (R : Nat → Prop) (r : Nat) (s : RSt) (w : World), RrR T R w r s → (∀ k, R k → k < w.heap.size) → (s.getD []).length ≤ 900000 →
  Calls Try.prog F #[.pointer (some ⟨r, 0, none⟩), .func (.func Fe) #[] #[]] w fun e w' => ∃ v, e = .returned v ∧ RdS A (New w w') w' v (gList g s).1 ∧ RrR T R w' r (gList g s).2 ∧ Mod R w w'
theorem Gets.to {α : Type} {A : Rep α} {T : TypeId} {F : FuncId} {g : RSt → α × RSt} (h : Gets A T F g) {s s' : RSt} {x : α} (hx : (g s).1 = x) (hs : (g s).2 = s') {R : Nat → Prop} {r : Nat} {w : World} (h1 : RrR T R w r s) (h2 : ∀ k, R k → k < w.heap.size) (h3 : (s.getD []).length ≤ 900000) :
    Calls Try.prog F #[.pointer (some ⟨r, 0, none⟩)] w fun e w' => ∃ cs, e = .returned (.agg cs.toArray) ∧ A.rd (New w w') w' cs x ∧ RrR T R w' r s' ∧ Mod R w w' := by
  subst hx hs
  exact h R r s w h1 h2 h3
theorem GetsF.to {α : Type} {cells : α → List Value} {T : TypeId} {F : FuncId} {g : RSt → α × RSt} (h : GetsF T F cells g) {A : Rep α} (hA : ∀ (R : Nat → Prop) (w : World) (s : RSt), Bytes (s.getD []) → A.rd R w (cells (g s).1) (g s).1) : Gets A T F g := by
  intro R r s w h1 h2 h3
  exact (h R r s w h1 h2).mono fun e w' ⟨he, h4, h5⟩ => ⟨_, he, hA _ _ s h1.bytes, h4, h5⟩
section
variable {R : Nat → Prop} {r : Nat} {s : RSt} {w : World}
theorem cI_Q (h : RrR 125 R w r s) : Calls Try.prog 115 #[.pointer (some ⟨r, 0, none⟩), .int .i64 1099511627776] w fun e w' => e = .returned (.int .i64 (gI s).1) ∧ RrR 125 R w' r (gI s).2 ∧ Mod R w w' := RInt_R h (by decide)
theorem cRow_Q (h : RrR 125 R w r s) : Calls Try.prog 149 #[.pointer (some ⟨r, 0, none⟩), .int .i64 256] w fun e w' => ∃ v', e = .returned v' ∧ RdR (New w w') (rRow 256 s).1.length w' v' (rRow 256 s).1 ∧ RrR 125 R w' r (rRow 256 s).2 ∧ Mod R w w' :=
  (RRow_R h (by decide)).mono fun _ _ ⟨v', he, ho, h2, h3⟩ => ⟨v', he, ⟨ho.rd.1, ho.rd.2.1, Nat.le_refl _⟩, h2, h3⟩
end
end Go.Proofs.Ytknpapcfhnhheaa

/- Numbers not too great: gavellaw05's up, niceName, niceSig. -/
namespace Go.Proofs.Ytknpapcfhnhheaa
open Go Go.RowKit Go.Gv


end Go.Proofs.Ytknpapcfhnhheaa

/- Certificates not too great: gavellaw05's nice. -/
namespace Go.Proofs.Ytknpapcfhnhheaa
open Go Go.RowKit Go.Gv


end Go.Proofs.Ytknpapcfhnhheaa

/- Promises not too great: gavellaw05's nicePromise. -/
namespace Go.Proofs.Ytknpapcfhnhheaa
open Go Go.RowKit Go.Gv

end Go.Proofs.Ytknpapcfhnhheaa

/- Batches not too great: gavellaw05's niceBatch. -/
namespace Go.Proofs.Ytknpapcfhnhheaa
open Go Go.RowKit Go.Gv


end Go.Proofs.Ytknpapcfhnhheaa

/- Parts of messages, put as bytes. -/
namespace Go.Proofs.Ytknpapcfhnhheaa
open Go Go.RowKit Go.Gv

set_option maxHeartbeats 4000000 in
theorem PutDn_Q : Puts DnR 154 dnB := by
  intro R R2 g bs cs x w hW hB hx hB2 hD hl
  obtain ⟨rfl, hok⟩ := hx
  have HW := Lib.hid hW
  have HBR := Lib.hid hB
  have HBT := Lib.hid hB2
  have HDJ := Lib.hid hD
  have HOK := Lib.hid hok
  have HL := Lib.hid hl
  clear hW hB hB2 hD hl hok
  unfold dnB at HL
  go_enter Try.func154, Try.ntmps154
  go_upto_region 1 with (fail)
  obtain ⟨w1, hw1⟩ : ∃ zz, zz = (w.alloc (.cells (x.cells : List Value).toArray 34)) := ⟨_, rfl⟩
  change Code.wp _ _ _ _ (w.alloc (.cells (x.cells : List Value).toArray 34))
  rw [← hw1]
  have HB3 := hid (show Cs w1 (w.heap.size) (x.cells : List Value).toArray 34 by rw [hw1]; exact Cs.new _ _ _)
  have hm : Mod (fun _ => False) w w1 := by rw [hw1]; exact (Mod.refl _ _).alloc _
  have HM0 := hid (show Mod (fun k => (R k)) w w1 from hm.mono (fun _ _ h => h.elim))
  have hs1 : w1.heap.size = w.heap.size + 1 := by rw [hw1]; simp
  have Hx1 := hid (HW.out.mod hm (fun _ _ h => h))
  clear HW
  clear hw1 hm
  go_upto_region 1 with (fail)
  generalize ha0 : Act.mk _ _ = a0
  have oe0 : a0.eval (.tmp 0) = .pointer (some ⟨g, 0, none⟩) := by rw [← ha0]; rfl
  have oe3 : a0.eval (.tmp 3) = .pointer (some ⟨w.heap.size, 0, none⟩) := by rw [← ha0]; rfl
  have hsz0 : a0.tmps.size = 15 := by rw [← ha0]; rfl
  have HA0 := hid ha0
  clear ha0
  refine wp_region_Q1 15 hsz0 [4, 5, 6, 7, 8, 9, 10] (fun k => (R k)) (fun k j => (k = 0 ∧ ((R j))) ∨ (k = 1 ∧ ((R j)))) (by intro k j h; (try dsimp only at h ⊢); rcases h with ⟨-, h⟩ | ⟨-, h⟩; (exact h); (exact h)) [qi (.pointer (some ⟨g, 0, none⟩)), qi (.pointer (some ⟨w.heap.size, 0, none⟩)), qi (.int .i64 x.rp), qi (.pointer (some ⟨g, 0, none⟩)), qi (.pointer (some ⟨w.heap.size, 1, none⟩)), qi (.int .i64 x.ix), qi (.pointer (some ⟨g, 0, none⟩))] ⟨qi_stable, qi_stable, qi_stable, qi_stable, qi_stable, qi_stable, qi_stable, trivial⟩ [3, 6] ⟨?_, ?_, ?_, ?_, ?_, ?_, ?_, trivial⟩ ?_
  · exact stq (fun E => ex_move rfl (E.v oe0))
  · exact stq (fun E => ex_field rfl Try.underlying34 rfl (by kernel_rfl) (E.v oe3))
  · exact stq (fun E => ex_load1 rfl Try.underlying3 rfl (E.d 1) (Cs.lit1 (HB3.out.mod E.m (by intro h2; rcases h2 with ⟨h0, h2⟩ | h2 <;> first | omega | (have hb := HBR.out _ h2; omega))) rfl))
  · exact stepq_chain rfl
  · exact stq (fun E => ex_field rfl Try.underlying34 rfl (by kernel_rfl) (E.v oe3))
  · exact stq (fun E => ex_load1 rfl Try.underlying3 rfl (E.d 4) (Cs.lit1 (HB3.out.mod E.m (by intro h2; rcases h2 with ⟨h0, h2⟩ | h2 <;> first | omega | (have hb := HBR.out _ h2; omega))) rfl))
  · exact stepq_chain rfl
  intro u1_0 hr
  have zu1_0 := hr.size
  have Cx2 := hid (hr.new (S := (fun k => (R k))))
  have Hx3 := hid (Hx1.out.mod hr (by intro k h1 h2; have hb := HBR.out k h1; omega))
  clear Hx1
  clear hr
  refine QChain.go fun Z act E => ?_
  refine qc_callF (args := #[.pointer (some ⟨g, 0, none⟩), .int .i64 x.rp]) rfl (wanted_none rfl) rfl Try.func64 (args2 (E.d 0) (E.d 2)) (WInt_Q Hx3.out HOK.out.rp (by have := HL.out; simp only [List.length_append] at this ⊢; omega)) ?_
  rintro e u1_1a ⟨rfl, qwr, hm⟩
  have zu1_1a := hm.size
  refine ⟨_, rfl, hm.mono (by intro k hk h; first | omega | exact Or.inl ⟨(by have hb := HBR.out k h; omega), Or.inl ⟨rfl, h⟩⟩), (fun _ => rfl), ?_⟩
  intro u1_1 hr
  have zu1_1 := hr.size
  have Hx4 := hid ((qwr.widen (R' := (fun k => (R k) ∨ (New u1_0 u1_1a k))) (fun _ h => h) (Nat.le_refl _)).mod hr (by intro k h1 h2; rcases h1 with h1 | h1 <;> first | omega | (have hb := HBR.out k h1; omega)))
  have Cx5 := hid (Cx2.out.goM hm hr (fun _ _ h => h))
  clear Cx2 hm hr Z act E qwr Hx3
  refine QChain.go fun Z act E => ?_
  refine qc_callF (args := #[.pointer (some ⟨g, 0, none⟩), .int .i64 x.ix]) rfl (wanted_none rfl) rfl Try.func64 (args2 (E.d 3) (E.d 5)) (WInt_Q Hx4.out HOK.out.ix (by have := HL.out; simp only [List.length_append] at this ⊢; omega)) ?_
  rintro e u1_2a ⟨rfl, qwr, hm⟩
  have zu1_2a := hm.size
  refine ⟨_, rfl, hm.mono (by intro k hk h; rcases h with h | h <;> first | omega | exact Or.inl ⟨(by have hb := HBR.out k h; omega), Or.inr (⟨rfl, h⟩)⟩), (fun _ => rfl), ?_⟩
  intro u1_2 hr
  have zu1_2 := hr.size
  have Hx6 := hid ((qwr.widen (R' := (fun k => (R k) ∨ (New u1_0 u1_1a k) ∨ (New u1_1 u1_2a k))) (by intro k h1; simp only [or_assoc] at h1 ⊢; exact h1) (Nat.le_refl _)).mod hr (by intro k h1 h2; rcases h1 with h1 | h1 | h1 <;> first | omega | (have hb := HBR.out k h1; omega)))
  have Cx7 := hid (Cx5.out.goM hm hr (by intro k h0 h2; rcases h2 with h2 | h2 <;> first | omega | exact h2))
  clear Cx5 hm hr Z act E qwr Hx4
  refine QChain.nil fun vs hl hzz hrows hne => ?_
  obtain ⟨Z, hYZ, hZb, hV⟩ := hzz
  have f0 := fvi hV hl 0
  have f3 := fvi hV hl 3
  have f6 := fvi hV hl 6
  rw [show vs = [gw vs 0, gw vs 1, gw vs 2, gw vs 3, gw vs 4, gw vs 5, gw vs 6] from (gw_eta hl).trans rfl]
  have ha0 := HA0.out
  subst ha0
  clear HA0 hV hYZ hZb hsz0 hrows hne oe0 oe3
  simp only [putAll, Act.put, List.setIfInBounds_toArray, List.set_cons_zero, List.set_cons_succ, f0, f3, f6]
  clear hl f0 f3 f6
  go_upto_region 2 with (fail)
  refine wp_region_U 15 [11, 12, 13, 14] [0, 1, 2, 3] (fun a0 HA0 => ?_)
  have oe0 := ev HA0 0 rfl
  have oe3 := ev HA0 3 rfl
  refine QSeq.pure rfl _ (fun E => ex_move rfl (E.v oe0)) ?_
  refine QSeq.pure rfl (.pointer (some ⟨w.heap.size, 2, none⟩)) (fun E => ex_field rfl Try.underlying34 rfl (by kernel_rfl) (E.v oe3)) ?_
  refine QSeq.pure rfl _ (fun E => ex_loadA rfl Try.underlying28 rfl (off := 2) (cs := [.int .i64 x.sb, .int .i64 x.mr]) (by kernel_rfl) (E.d 1 0) (Cs.litA (HB3.out.mod Cx7.out (by intro h2; first | omega | (have hb := HBR.out _ h2; omega))) rfl)) ?_
  refine QSeq.call rfl rfl Try.func142 (PutSig_Q Hx6.out (by intro k h1; rcases h1 with h1 | h1 | h1 <;> first | omega | (have hb := HBR.out k h1; omega)) HOK.out.sb HOK.out.mr (by have := HL.out; simp only [List.length_append] at this ⊢; omega)) (fun E => args2 (E.d 0 2) (E.d 2 0)) ?_
  rintro e u2_3 ⟨rfl, qwr, hm⟩
  refine ⟨_, rfl, ?_⟩
  have Hx8 := hid (qwr.widen (R' := (fun k => (R k) ∨ (New u1_0 u1_1a k) ∨ (New u1_1 u1_2a k) ∨ (New u1_2 u2_3 k))) (by intro k h1; simp only [or_assoc] at h1 ⊢; exact h1) (Nat.le_refl _))
  have zu2_3 := hm.size
  have Cx9 := hid (show Mod (fun k => (R k) ∨ (New u1_0 u1_1a k) ∨ (New u1_1 u1_2a k)) u1_2 u2_3 from hm)
  clear hm
  clear qwr Hx6
  refine QSeq.nil (t' := [_, _, _, _]) rfl ?_
  obtain rfl := HA0.out
  clear HA0 oe0 oe3
  simp only [pz, Act.put, List.setIfInBounds_toArray, List.set_cons_zero, List.set_cons_succ]
  go_wp2
  go_end0
  have hq := (Hx8.out.widen (R' := (fun k => R k ∨ New w u2_3 k)) (by intro k h1; rcases h1 with h1 | h1 | h1 | h1 <;> first | exact Or.inl h1 | (right; omega)) (Nat.le_refl _))
  simp only [List.append_assoc] at hq
  exact ⟨rfl, by simpa only [dnB, List.append_assoc] using hq, ((HM0.out.trans Cx7.out (fun _ _ h => h)).trans Cx9.out (by intro k h1 h2; rcases h2 with h2 | h2 | h2 <;> first | exact h2 | omega | (have hb := HBR.out k h2; omega)))⟩
set_option maxHeartbeats 4000000 in
theorem PutList_Dn : PutsL DnR 153 154 dnB := by
  intro R R2 g bs v l w hW hB hs hB2 hD hl
  obtain ⟨ao, cap, rfl⟩ := hs.shape
  have hb64 : l.length ≤ maxLen := hs.bd
  rw [maxLen_val] at hb64
  have HI64 := hid (show I64 (l.length : Int) by unfold I64; omega)
  have HW := Lib.hid hW
  have HS := Lib.hid hs
  have HBR := Lib.hid hB
  have HBT := Lib.hid hB2
  have HDJ := Lib.hid hD
  have HL := Lib.hid hl
  clear hW hB hs hB2 hD hl
  unfold listB at HL
  go_enter Try.func153, Try.ntmps153
  go_upto_region 0 with (fail)
  have HM0 := hid (Mod.refl (fun k => (R k)) w)
  go_upto_region 0 with (fail)
  refine wp_region_U 23 [8, 9, 10, 11] [0, 1, 2, 3] (fun a0 HA0 => ?_)
  have oe0 := ev HA0 0 rfl
  have oe1 := ev HA0 1 rfl
  refine QSeq.pure rfl _ (fun E => ex_move rfl (E.v oe0)) ?_
  refine QSeq.pure rfl _ (fun E => ex_move rfl (E.v oe1)) ?_
  refine QSeq.pure rfl (.int .i64 l.length) (fun E => ex_lenS rfl (E.d 1 0) Try.underlying88) ?_
  refine QSeq.call rfl rfl Try.func64 (WInt_Q HW.out HI64.out (by have := HL.out; simp only [List.length_append] at this ⊢; omega)) (fun E => args2 (E.d 0 2) (E.d 2 0)) ?_
  rintro e u0_3 ⟨rfl, qwr, hm⟩
  refine ⟨_, rfl, ?_⟩
  have Hx1 := hid (qwr.widen (R' := (fun k => (R k) ∨ (New w u0_3 k))) (fun _ h => h) (Nat.le_refl _))
  have zu0_3 := hm.size
  have Cx2 := hid (show Mod (fun k => (R k)) w u0_3 from hm)
  clear hm
  clear qwr HW
  refine QSeq.nil (t' := [_, _, _, _]) rfl ?_
  obtain rfl := HA0.out
  clear HA0 oe0 oe1
  simp only [pz, Act.put, List.setIfInBounds_toArray, List.set_cons_zero, List.set_cons_succ]
  go_wp2
  go_loopw [14] (fun t wr => ∃ k : Nat, t = .int .i64 (k : Int) ∧ k ≤ l.length ∧ u0_3.heap.size ≤ wr.heap.size ∧ WrR (fun b => R b ∨ (w.heap.size ≤ b ∧ b < wr.heap.size)) 900000 wr g (bs ++ (encI l.length ++ ((l.take k).map dnB).flatten)) ∧ RdS DnR R2 wr (.slice ao l.length cap) l ∧ Mod R w wr) (fun t _ => l.length - (intOf t).toNat)
  case atStart => exact ⟨0, rfl, Nat.zero_le _, Nat.le_refl _, by have hq := (Hx1.out.widen (R' := (fun k => R k ∨ (w.heap.size ≤ k ∧ k < u0_3.heap.size))) (by intro k h1; rcases h1 with h1 | h1 <;> first | exact Or.inl h1 | (right; omega)) (Nat.le_refl _)); simpa only [List.take_zero, List.map_nil, List.flatten_nil, List.append_nil] using hq, (HS.out.mod Cx2.out (by intro k h1 h2; first | omega | (have hb := HBT.out k h1; omega) | (have hb := HBR.out k h2; omega) | exact HDJ.out k h1 h2 | exact HDJ.out k h2 h1 | (have hb := HBT.out k h1; have hb2 := HBR.out k h2; omega))), (HM0.out.trans Cx2.out (fun _ _ h => h))⟩
  case round =>
    obtain ⟨k, rfl, hk, hz, hw, hs, hm⟩ := hrel
    have HW2 := Lib.hid hw
    have HS2 := Lib.hid hs
    have HM2 := Lib.hid hm
    clear hw hs hm Hx1 HS HM0
    obtain ⟨wo, rfl⟩ : ∃ x, x = wr := ⟨_, rfl⟩
    by_cases hlt : k < l.length
    · skip
      obtain ⟨g0, o0, cs, rfl, hrg, hrd, hcs⟩ := HS2.out.at hlt
      have hcl : cs.length = 4 := DnR.len hrd
      have HCL := Lib.hid hcl
      have HAT := hid (show CellsAt R2 wo g0 (o0 + k * 4) cs from ⟨hrg, hcs⟩)
      have HRD := Lib.hid hrd
      have HOC := hid (DnR.one hrd)
      clear hcl hcs hrd hrg
      have HE : Hid (bs ++ (encI l.length ++ ((l.take k).map dnB).flatten) ++ dnB l[k] = bs ++ (encI l.length ++ ((l.take (k + 1)).map dnB).flatten)) := hid (by rw [List.take_succ_eq_append_getElem hlt, List.map_append, List.flatten_append]; simp [List.append_assoc])
      have HLk := hid (show (bs ++ (encI l.length ++ ((l.take k).map dnB).flatten) ++ dnB l[k]).length ≤ 900000 by rw [HE.out]; exact Nat.le_trans (put_len _ _ _ _ _) HL.out)
      go_upto_region 3 with (fail)
      refine wp_region_U 23 [16, 17, 7, 26] [0, 1, 2, 3] (fun a0 HA0 => ?_)
      have oe12 := ev HA0 12 rfl
      have oe14 := ev HA0 14 rfl
      refine QSeq.pure rfl (.pointer (some ⟨g0, o0 + k * 4, none⟩)) (fun E => ex_idxS (i := k) (s := 4) rfl Try.underlying88 (by kernel_rfl) (E.v oe12) (E.v oe14) (by omega)) ?_
      refine QSeq.pure rfl _ (fun E => ex_loadA rfl Try.underlying34 rfl (off := o0 + k * 4) (cs := cs) (by rw [HCL.out]; kernel_rfl) (E.d 0 0) (fun j u hu => (HAT.out).2 j u hu)) ?_
      refine QSeq.go fun act E => ?_
      refine qc_alloc rfl (wanted_none rfl) rfl (z := [.int .i64 0, .int .i64 0, .int .i64 0, .int .i64 0]) (by kernel_rfl) ?_
      intro u3_2 qq hm
      have zl3_2 := qq.lt
      have Hx3 := hid qq
      have zu3_2 := hm.size
      have Cx4 := hid (show Mod (fun _ => False) wo u3_2 from hm)
      clear hm
      clear act E qq
      refine QSeq.go fun act E => ?_
      have hlz : (cs).length = List.length ([.int .i64 0, .int .i64 0, .int .i64 0, .int .i64 0] : List Value) := (by rw [HCL.out]; rfl)
      refine qc_store rfl (wanted_none rfl) rfl Hx3.out (off := 0) (vs := cs) (by rw [hlz]; kernel_rfl) HOC.out (by rw [hlz]; exact Nat.le_of_eq (Nat.zero_add _)) (E.d 2 0) (ec (E.d 1 1)) ?_
      intro u3_3 qc0 hm
      have qq := qc0.eqv (b := (cs : List Value).toArray) (lay_whole #[.int .i64 0, .int .i64 0, .int .i64 0, .int .i64 0] _ (by rw [hlz]; rfl))
      clear qc0 hlz
      have Hx5 := hid qq
      have zu3_3 := hm.size
      have HMu3_3 := hid hm
      have Cx6 := hid (Mod.goS (S' := (fun _ => False)) Cx4.out hm (fun _ h => h) (by intro k h0 h2; omega))
      clear hm Cx4
      clear act E qq Hx3
      clear HMu3_3
      refine QSeq.nil (t' := [_, _, _, _]) rfl ?_
      obtain rfl := HA0.out
      clear HA0 oe12 oe14
      simp only [pz, Act.put, List.setIfInBounds_toArray, List.set_cons_zero, List.set_cons_succ, List.set_nil]
      go_upto_region 4 with (fail)
      refine wp_region_U 23 [18, 19, 20, 21] [0, 1, 2, 3] (fun a0 HA0 => ?_)
      have oe0 := ev HA0 0 rfl
      have oe2 := ev HA0 2 rfl
      have oe7 := ev HA0 7 rfl
      refine QSeq.pure rfl _ (fun E => ex_move rfl (E.v oe2)) ?_
      refine QSeq.pure rfl _ (fun E => ex_move rfl (E.v oe0)) ?_
      refine QSeq.pure rfl _ (fun E => ex_loadA rfl Try.underlying34 rfl (off := 0) (cs := cs) (by rw [HCL.out]; kernel_rfl) (E.v oe7) (Cs.whole Hx5.out)) ?_
      refine QSeq.go fun act E => ?_
      have ea19 : act.eval (.tmp 19) = .pointer (some ⟨g, 0, none⟩) := (E.d 1 1)
      have ea20 : act.eval (.tmp 20) = .agg cs.toArray := (E.d 2 0)
      refine qc_call (args := #[.pointer (some ⟨g, 0, none⟩), .agg cs.toArray]) rfl (wanted_none rfl) (by rw [ex_callV rfl (E.d 0 2) Try.func154 (by kernel_rfl) (by kernel_rfl)]; exact congrArg (fun z => Result.ok (Next.enter _ z) _) (by simp only [List.map_toArray, List.map_cons, List.map_nil, ea19, ea20]; try rfl)) (PutDn_Q _ _ _ _ _ _ _ (HW2.out.mod Cx6.out (fun _ _ h => h)) (by intro k h1; rcases h1 with h1 | h1 <;> first | omega | (have hb := HBR.out k h1; omega)) (HRD.out.mod Cx6.out (fun _ _ h => h)) (by intro k h1; have hb := HBT.out k h1; omega) (by intro k h1 h2; rcases h1 with h1 | h1 <;> first | omega | (have hb := HBR.out k h1; omega) | (have hb := HBT.out k h2; omega) | exact HDJ.out k h1 h2 | exact HDJ.out k h2 h1 | (have hb := HBR.out k h1; have hb2 := HBT.out k h2; omega)) HLk.out) ?_
      rintro e u4_3 ⟨rfl, qwr, hm⟩
      refine ⟨_, rfl, ?_⟩
      have Hx7 := hid (qwr.widen (R' := (fun k => (R k) ∨ (New w wo k) ∨ (New u3_3 u4_3 k))) (by intro k h1; simp only [or_assoc] at h1 ⊢; exact h1) (Nat.le_refl _))
      have zu4_3 := hm.size
      have Cx8 := hid (show Mod (fun k => (R k) ∨ (New w wo k)) u3_3 u4_3 from hm)
      clear hm
      clear act E qwr HW2 ea19 ea20
      refine QSeq.nil (t' := [_, _, _, _]) rfl ?_
      obtain rfl := HA0.out
      clear HA0 oe0 oe2 oe7
      simp only [pz, Act.put, List.setIfInBounds_toArray, List.set_cons_zero, List.set_cons_succ]
      have hq := Hx7.out
      rw [HE.out] at hq
      have HQ := Lib.hid hq
      clear hq
      go_wp2
      go_roundw
      case rel => exact ⟨k + 1, by go_num, by omega, by omega, (HQ.out.widen (by intro b h1; rcases h1 with h1 | h1 | h1 <;> first | exact Or.inl h1 | (right; omega)) (Nat.le_refl _)), ((HS2.out.mod Cx6.out (fun _ _ h => h)).mod Cx8.out (by intro k h1 h2; rcases h2 with h2 | h2 <;> first | omega | (have hb := HBT.out k h1; omega) | (have hb := HBR.out k h2; omega) | exact HDJ.out k h1 h2 | exact HDJ.out k h2 h1 | (have hb := HBT.out k h1; have hb2 := HBR.out k h2; omega))), ((HM2.out.trans Cx6.out (fun _ _ h => h.elim)).trans Cx8.out (by intro k h1 h2; rcases h2 with h2 | h2 <;> first | exact h2 | omega | (have hb := HBR.out k h2; omega)))⟩
      case measure => simp [intOf]; omega
    · have hkk : k = l.length := by omega
      subst hkk
      go_wp2
      go_end0
      have hq := HW2.out
      rw [List.take_length] at hq
      exact ⟨rfl, hq, HM2.out⟩
set_option maxHeartbeats 4000000 in
theorem PutTb_Q : Puts TbR 134 tbB := by
  intro R R2 g bs cs x w hW hB hx hB2 hD hl
  obtain ⟨v_l, rfl, hok, hs0⟩ := hx
  have HS0 := Lib.hid hs0
  clear hs0
  have HW := Lib.hid hW
  have HBR := Lib.hid hB
  have HBT := Lib.hid hB2
  have HDJ := Lib.hid hD
  have HOK := Lib.hid hok
  have HL := Lib.hid hl
  clear hW hB hB2 hD hl hok
  unfold tbB at HL
  go_enter Try.func134, Try.ntmps134
  go_upto_region 1 with (fail)
  obtain ⟨w1, hw1⟩ : ∃ zz, zz = (w.alloc (.cells (x.cells v_l : List Value).toArray 90)) := ⟨_, rfl⟩
  change Code.wp _ _ _ _ (w.alloc (.cells (x.cells v_l : List Value).toArray 90))
  rw [← hw1]
  have HB3 := hid (show Cs w1 (w.heap.size) (x.cells v_l : List Value).toArray 90 by rw [hw1]; exact Cs.new _ _ _)
  have hm : Mod (fun _ => False) w w1 := by rw [hw1]; exact (Mod.refl _ _).alloc _
  have HM0 := hid (show Mod (fun k => (R k)) w w1 from hm.mono (fun _ _ h => h.elim))
  have hs1 : w1.heap.size = w.heap.size + 1 := by rw [hw1]; simp
  have Hx1 := hid (HW.out.mod hm (fun _ _ h => h))
  clear HW
  have Hx2 := hid (HS0.out.mod hm (fun _ _ h => h))
  clear HS0
  clear hw1 hm
  go_upto_region 1 with (fail)
  refine wp_region_U 12 [4, 5, 6, 7] [0, 1, 2, 3] (fun a0 HA0 => ?_)
  have oe0 := ev HA0 0 rfl
  have oe3 := ev HA0 3 rfl
  refine QSeq.pure rfl _ (fun E => ex_move rfl (E.v oe0)) ?_
  refine QSeq.pure rfl (.pointer (some ⟨w.heap.size, 0, none⟩)) (fun E => ex_field rfl Try.underlying90 rfl (by kernel_rfl) (E.v oe3)) ?_
  refine QSeq.pure rfl _ (fun E => ex_load1 rfl Try.underlying3 rfl (E.d 1 0) (Cs.lit1 HB3.out rfl)) ?_
  refine QSeq.call rfl rfl Try.func64 (WInt_Q Hx1.out HOK.out (by have := HL.out; simp only [List.length_append] at this ⊢; omega)) (fun E => args2 (E.d 0 2) (E.d 2 0)) ?_
  rintro e u1_3 ⟨rfl, qwr, hm⟩
  refine ⟨_, rfl, ?_⟩
  have Hx3 := hid (qwr.widen (R' := (fun k => (R k) ∨ (New w1 u1_3 k))) (fun _ h => h) (Nat.le_refl _))
  have zu1_3 := hm.size
  have Cx4 := hid (show Mod (fun k => (R k)) w1 u1_3 from hm)
  clear hm
  clear qwr Hx1
  refine QSeq.nil (t' := [_, _, _, _]) rfl ?_
  obtain rfl := HA0.out
  clear HA0 oe0 oe3
  simp only [pz, Act.put, List.setIfInBounds_toArray, List.set_cons_zero, List.set_cons_succ]
  go_upto_region 2 with (fail)
  refine wp_region_U 12 [8, 9, 10, 11] [0, 1, 2, 3] (fun a0 HA0 => ?_)
  have oe0 := ev HA0 0 rfl
  have oe3 := ev HA0 3 rfl
  refine QSeq.pure rfl _ (fun E => ex_move rfl (E.v oe0)) ?_
  refine QSeq.pure rfl (.pointer (some ⟨w.heap.size, 1, none⟩)) (fun E => ex_field rfl Try.underlying90 rfl (by kernel_rfl) (E.v oe3)) ?_
  refine QSeq.pure rfl _ (fun E => ex_load1 rfl Try.underlying88 rfl (E.d 1 0) (Cs.lit1 (HB3.out.mod Cx4.out (by intro h2; first | omega | (have hb := HBR.out _ h2; omega))) rfl)) ?_
  refine QSeq.call rfl rfl Try.func153 (PutList_Dn _ _ _ _ _ _ _ Hx3.out (by intro k h1; rcases h1 with h1 | h1 <;> first | omega | (have hb := HBR.out k h1; omega)) (Hx2.out.mod Cx4.out (by intro k h1 h2; first | omega | (have hb := HBT.out k h1; omega) | (have hb := HBR.out k h2; omega) | exact HDJ.out k h1 h2 | exact HDJ.out k h2 h1 | (have hb := HBT.out k h1; have hb2 := HBR.out k h2; omega))) (by intro k h1; have hb := HBT.out k h1; omega) (by intro k h1 h2; rcases h1 with h1 | h1 <;> first | omega | (have hb := HBR.out k h1; omega) | (have hb := HBT.out k h2; omega) | exact HDJ.out k h1 h2 | exact HDJ.out k h2 h1 | (have hb := HBR.out k h1; have hb2 := HBT.out k h2; omega)) (by have := HL.out; simp only [List.length_append] at this ⊢; omega)) (fun E => args3 (E.d 0 2) (E.d 2 0) rfl) ?_
  rintro e u2_3 ⟨rfl, qwr, hm⟩
  refine ⟨_, rfl, ?_⟩
  have Hx5 := hid (qwr.widen (R' := (fun k => (R k) ∨ (New w1 u1_3 k) ∨ (New u1_3 u2_3 k))) (by intro k h1; simp only [or_assoc] at h1 ⊢; exact h1) (Nat.le_refl _))
  have zu2_3 := hm.size
  have Cx6 := hid (show Mod (fun k => (R k) ∨ (New w1 u1_3 k)) u1_3 u2_3 from hm)
  clear hm
  clear qwr Hx3
  refine QSeq.nil (t' := [_, _, _, _]) rfl ?_
  obtain rfl := HA0.out
  clear HA0 oe0 oe3
  simp only [pz, Act.put, List.setIfInBounds_toArray, List.set_cons_zero, List.set_cons_succ]
  go_wp2
  go_end0
  have hq := (Hx5.out.widen (R' := (fun k => R k ∨ New w u2_3 k)) (by intro k h1; rcases h1 with h1 | h1 | h1 <;> first | exact Or.inl h1 | (right; omega)) (Nat.le_refl _))
  simp only [List.append_assoc] at hq
  exact ⟨rfl, by simpa only [tbB, List.append_assoc] using hq, ((HM0.out.trans Cx4.out (fun _ _ h => h)).trans Cx6.out (by intro k h1 h2; rcases h2 with h2 | h2 <;> first | exact h2 | omega | (have hb := HBR.out k h2; omega)))⟩
set_option maxHeartbeats 4000000 in
theorem PutList_Tb : PutsL TbR 133 134 tbB := by
  intro R R2 g bs v l w hW hB hs hB2 hD hl
  obtain ⟨ao, cap, rfl⟩ := hs.shape
  have hb64 : l.length ≤ maxLen := hs.bd
  rw [maxLen_val] at hb64
  have HI64 := hid (show I64 (l.length : Int) by unfold I64; omega)
  have HW := Lib.hid hW
  have HS := Lib.hid hs
  have HBR := Lib.hid hB
  have HBT := Lib.hid hB2
  have HDJ := Lib.hid hD
  have HL := Lib.hid hl
  clear hW hB hs hB2 hD hl
  unfold listB at HL
  go_enter Try.func133, Try.ntmps133
  go_upto_region 0 with (fail)
  have HM0 := hid (Mod.refl (fun k => (R k)) w)
  go_upto_region 0 with (fail)
  refine wp_region_U 23 [8, 9, 10, 11] [0, 1, 2, 3] (fun a0 HA0 => ?_)
  have oe0 := ev HA0 0 rfl
  have oe1 := ev HA0 1 rfl
  refine QSeq.pure rfl _ (fun E => ex_move rfl (E.v oe0)) ?_
  refine QSeq.pure rfl _ (fun E => ex_move rfl (E.v oe1)) ?_
  refine QSeq.pure rfl (.int .i64 l.length) (fun E => ex_lenS rfl (E.d 1 0) Try.underlying58) ?_
  refine QSeq.call rfl rfl Try.func64 (WInt_Q HW.out HI64.out (by have := HL.out; simp only [List.length_append] at this ⊢; omega)) (fun E => args2 (E.d 0 2) (E.d 2 0)) ?_
  rintro e u0_3 ⟨rfl, qwr, hm⟩
  refine ⟨_, rfl, ?_⟩
  have Hx1 := hid (qwr.widen (R' := (fun k => (R k) ∨ (New w u0_3 k))) (fun _ h => h) (Nat.le_refl _))
  have zu0_3 := hm.size
  have Cx2 := hid (show Mod (fun k => (R k)) w u0_3 from hm)
  clear hm
  clear qwr HW
  refine QSeq.nil (t' := [_, _, _, _]) rfl ?_
  obtain rfl := HA0.out
  clear HA0 oe0 oe1
  simp only [pz, Act.put, List.setIfInBounds_toArray, List.set_cons_zero, List.set_cons_succ]
  go_wp2
  go_loopw [14] (fun t wr => ∃ k : Nat, t = .int .i64 (k : Int) ∧ k ≤ l.length ∧ u0_3.heap.size ≤ wr.heap.size ∧ WrR (fun b => R b ∨ (w.heap.size ≤ b ∧ b < wr.heap.size)) 900000 wr g (bs ++ (encI l.length ++ ((l.take k).map tbB).flatten)) ∧ RdS TbR R2 wr (.slice ao l.length cap) l ∧ Mod R w wr) (fun t _ => l.length - (intOf t).toNat)
  case atStart => exact ⟨0, rfl, Nat.zero_le _, Nat.le_refl _, by have hq := (Hx1.out.widen (R' := (fun k => R k ∨ (w.heap.size ≤ k ∧ k < u0_3.heap.size))) (by intro k h1; rcases h1 with h1 | h1 <;> first | exact Or.inl h1 | (right; omega)) (Nat.le_refl _)); simpa only [List.take_zero, List.map_nil, List.flatten_nil, List.append_nil] using hq, (HS.out.mod Cx2.out (by intro k h1 h2; first | omega | (have hb := HBT.out k h1; omega) | (have hb := HBR.out k h2; omega) | exact HDJ.out k h1 h2 | exact HDJ.out k h2 h1 | (have hb := HBT.out k h1; have hb2 := HBR.out k h2; omega))), (HM0.out.trans Cx2.out (fun _ _ h => h))⟩
  case round =>
    obtain ⟨k, rfl, hk, hz, hw, hs, hm⟩ := hrel
    have HW2 := Lib.hid hw
    have HS2 := Lib.hid hs
    have HM2 := Lib.hid hm
    clear hw hs hm Hx1 HS HM0
    obtain ⟨wo, rfl⟩ : ∃ x, x = wr := ⟨_, rfl⟩
    by_cases hlt : k < l.length
    · skip
      obtain ⟨g0, o0, cs, rfl, hrg, hrd, hcs⟩ := HS2.out.at hlt
      have hcl : cs.length = 2 := TbR.len hrd
      have HCL := Lib.hid hcl
      have HAT := hid (show CellsAt R2 wo g0 (o0 + k * 2) cs from ⟨hrg, hcs⟩)
      have HRD := Lib.hid hrd
      have HOC := hid (TbR.one hrd)
      clear hcl hcs hrd hrg
      have HE : Hid (bs ++ (encI l.length ++ ((l.take k).map tbB).flatten) ++ tbB l[k] = bs ++ (encI l.length ++ ((l.take (k + 1)).map tbB).flatten)) := hid (by rw [List.take_succ_eq_append_getElem hlt, List.map_append, List.flatten_append]; simp [List.append_assoc])
      have HLk := hid (show (bs ++ (encI l.length ++ ((l.take k).map tbB).flatten) ++ tbB l[k]).length ≤ 900000 by rw [HE.out]; exact Nat.le_trans (put_len _ _ _ _ _) HL.out)
      go_upto_region 3 with (fail)
      refine wp_region_U 23 [16, 17, 7, 26] [0, 1, 2, 3] (fun a0 HA0 => ?_)
      have oe12 := ev HA0 12 rfl
      have oe14 := ev HA0 14 rfl
      refine QSeq.pure rfl (.pointer (some ⟨g0, o0 + k * 2, none⟩)) (fun E => ex_idxS (i := k) (s := 2) rfl Try.underlying58 (by kernel_rfl) (E.v oe12) (E.v oe14) (by omega)) ?_
      refine QSeq.pure rfl _ (fun E => ex_loadA rfl Try.underlying90 rfl (off := o0 + k * 2) (cs := cs) (by rw [HCL.out]; kernel_rfl) (E.d 0 0) (fun j u hu => (HAT.out).2 j u hu)) ?_
      refine QSeq.go fun act E => ?_
      refine qc_alloc rfl (wanted_none rfl) rfl (z := [.int .i64 0, .slice none 0 0]) (by kernel_rfl) ?_
      intro u3_2 qq hm
      have zl3_2 := qq.lt
      have Hx3 := hid qq
      have zu3_2 := hm.size
      have Cx4 := hid (show Mod (fun _ => False) wo u3_2 from hm)
      clear hm
      clear act E qq
      refine QSeq.go fun act E => ?_
      have hlz : (cs).length = List.length ([.int .i64 0, .slice none 0 0] : List Value) := (by rw [HCL.out]; rfl)
      refine qc_store rfl (wanted_none rfl) rfl Hx3.out (off := 0) (vs := cs) (by rw [hlz]; kernel_rfl) HOC.out (by rw [hlz]; exact Nat.le_of_eq (Nat.zero_add _)) (E.d 2 0) (ec (E.d 1 1)) ?_
      intro u3_3 qc0 hm
      have qq := qc0.eqv (b := (cs : List Value).toArray) (lay_whole #[.int .i64 0, .slice none 0 0] _ (by rw [hlz]; rfl))
      clear qc0 hlz
      have Hx5 := hid qq
      have zu3_3 := hm.size
      have HMu3_3 := hid hm
      have Cx6 := hid (Mod.goS (S' := (fun _ => False)) Cx4.out hm (fun _ h => h) (by intro k h0 h2; omega))
      clear hm Cx4
      clear act E qq Hx3
      clear HMu3_3
      refine QSeq.nil (t' := [_, _, _, _]) rfl ?_
      obtain rfl := HA0.out
      clear HA0 oe12 oe14
      simp only [pz, Act.put, List.setIfInBounds_toArray, List.set_cons_zero, List.set_cons_succ, List.set_nil]
      go_upto_region 4 with (fail)
      refine wp_region_U 23 [18, 19, 20, 21] [0, 1, 2, 3] (fun a0 HA0 => ?_)
      have oe0 := ev HA0 0 rfl
      have oe2 := ev HA0 2 rfl
      have oe7 := ev HA0 7 rfl
      refine QSeq.pure rfl _ (fun E => ex_move rfl (E.v oe2)) ?_
      refine QSeq.pure rfl _ (fun E => ex_move rfl (E.v oe0)) ?_
      refine QSeq.pure rfl _ (fun E => ex_loadA rfl Try.underlying90 rfl (off := 0) (cs := cs) (by rw [HCL.out]; kernel_rfl) (E.v oe7) (Cs.whole Hx5.out)) ?_
      refine QSeq.go fun act E => ?_
      have ea19 : act.eval (.tmp 19) = .pointer (some ⟨g, 0, none⟩) := (E.d 1 1)
      have ea20 : act.eval (.tmp 20) = .agg cs.toArray := (E.d 2 0)
      refine qc_call (args := #[.pointer (some ⟨g, 0, none⟩), .agg cs.toArray]) rfl (wanted_none rfl) (by rw [ex_callV rfl (E.d 0 2) Try.func134 (by kernel_rfl) (by kernel_rfl)]; exact congrArg (fun z => Result.ok (Next.enter _ z) _) (by simp only [List.map_toArray, List.map_cons, List.map_nil, ea19, ea20]; try rfl)) (PutTb_Q _ _ _ _ _ _ _ (HW2.out.mod Cx6.out (fun _ _ h => h)) (by intro k h1; rcases h1 with h1 | h1 <;> first | omega | (have hb := HBR.out k h1; omega)) (HRD.out.mod Cx6.out (fun _ _ h => h)) (by intro k h1; have hb := HBT.out k h1; omega) (by intro k h1 h2; rcases h1 with h1 | h1 <;> first | omega | (have hb := HBR.out k h1; omega) | (have hb := HBT.out k h2; omega) | exact HDJ.out k h1 h2 | exact HDJ.out k h2 h1 | (have hb := HBR.out k h1; have hb2 := HBT.out k h2; omega)) HLk.out) ?_
      rintro e u4_3 ⟨rfl, qwr, hm⟩
      refine ⟨_, rfl, ?_⟩
      have Hx7 := hid (qwr.widen (R' := (fun k => (R k) ∨ (New w wo k) ∨ (New u3_3 u4_3 k))) (by intro k h1; simp only [or_assoc] at h1 ⊢; exact h1) (Nat.le_refl _))
      have zu4_3 := hm.size
      have Cx8 := hid (show Mod (fun k => (R k) ∨ (New w wo k)) u3_3 u4_3 from hm)
      clear hm
      clear act E qwr HW2 ea19 ea20
      refine QSeq.nil (t' := [_, _, _, _]) rfl ?_
      obtain rfl := HA0.out
      clear HA0 oe0 oe2 oe7
      simp only [pz, Act.put, List.setIfInBounds_toArray, List.set_cons_zero, List.set_cons_succ]
      have hq := Hx7.out
      rw [HE.out] at hq
      have HQ := Lib.hid hq
      clear hq
      go_wp2
      go_roundw
      case rel => exact ⟨k + 1, by go_num, by omega, by omega, (HQ.out.widen (by intro b h1; rcases h1 with h1 | h1 | h1 <;> first | exact Or.inl h1 | (right; omega)) (Nat.le_refl _)), ((HS2.out.mod Cx6.out (fun _ _ h => h)).mod Cx8.out (by intro k h1 h2; rcases h2 with h2 | h2 <;> first | omega | (have hb := HBT.out k h1; omega) | (have hb := HBR.out k h2; omega) | exact HDJ.out k h1 h2 | exact HDJ.out k h2 h1 | (have hb := HBT.out k h1; have hb2 := HBR.out k h2; omega))), ((HM2.out.trans Cx6.out (fun _ _ h => h.elim)).trans Cx8.out (by intro k h1 h2; rcases h2 with h2 | h2 <;> first | exact h2 | omega | (have hb := HBR.out k h2; omega)))⟩
      case measure => simp [intOf]; omega
    · have hkk : k = l.length := by omega
      subst hkk
      go_wp2
      go_end0
      have hq := HW2.out
      rw [List.take_length] at hq
      exact ⟨rfl, hq, HM2.out⟩
set_option maxHeartbeats 4000000 in
theorem PutOp_Q : Puts OpR 132 opB := by
  intro R R2 g bs cs x w hW hB hx hB2 hD hl
  obtain ⟨v_pl, rfl, hok, hs0⟩ := hx
  have HS0 := Lib.hid hs0
  clear hs0
  have HW := Lib.hid hW
  have HBR := Lib.hid hB
  have HBT := Lib.hid hB2
  have HDJ := Lib.hid hD
  have HOK := Lib.hid hok
  have HL := Lib.hid hl
  clear hW hB hB2 hD hl hok
  unfold opB at HL
  go_enter Try.func132, Try.ntmps132
  go_upto_region 1 with (fail)
  obtain ⟨w1, hw1⟩ : ∃ zz, zz = (w.alloc (.cells (x.cells v_pl : List Value).toArray 87)) := ⟨_, rfl⟩
  change Code.wp _ _ _ _ (w.alloc (.cells (x.cells v_pl : List Value).toArray 87))
  rw [← hw1]
  have HB3 := hid (show Cs w1 (w.heap.size) (x.cells v_pl : List Value).toArray 87 by rw [hw1]; exact Cs.new _ _ _)
  have hm : Mod (fun _ => False) w w1 := by rw [hw1]; exact (Mod.refl _ _).alloc _
  have HM0 := hid (show Mod (fun k => (R k)) w w1 from hm.mono (fun _ _ h => h.elim))
  have hs1 : w1.heap.size = w.heap.size + 1 := by rw [hw1]; simp
  have Hx1 := hid (HW.out.mod hm (fun _ _ h => h))
  clear HW
  have Hx2 := hid (HS0.out.mod hm (fun _ _ h => h))
  clear HS0
  clear hw1 hm
  go_upto_region 1 with (fail)
  generalize ha0 : Act.mk _ _ = a0
  have oe0 : a0.eval (.tmp 0) = .pointer (some ⟨g, 0, none⟩) := by rw [← ha0]; rfl
  have oe3 : a0.eval (.tmp 3) = .pointer (some ⟨w.heap.size, 0, none⟩) := by rw [← ha0]; rfl
  have hsz0 : a0.tmps.size = 14 := by rw [← ha0]; rfl
  have HA0 := hid ha0
  clear ha0
  refine wp_region_Q1 14 hsz0 [4, 5, 6, 7, 8, 9, 10, 11, 12, 13] (fun k => (R k)) (fun k j => (k = 0 ∧ ((R j))) ∨ (k = 1 ∧ ((R j))) ∨ (k = 2 ∧ ((R j)))) (by intro k j h; (try dsimp only at h ⊢); rcases h with ⟨-, h⟩ | ⟨-, h⟩ | ⟨-, h⟩; (exact h); (exact h); (exact h)) [qi (.pointer (some ⟨g, 0, none⟩)), qi (.pointer (some ⟨w.heap.size, 0, none⟩)), qi (.int .i64 x.ix), qi (.pointer (some ⟨g, 0, none⟩)), qi (.pointer (some ⟨w.heap.size, 1, none⟩)), qi (v_pl), qi (.pointer (some ⟨g, 0, none⟩)), qi (.pointer (some ⟨w.heap.size, 2, none⟩)), qi (hv x.nc), qi (.pointer (some ⟨g, 0, none⟩))] ⟨qi_stable, qi_stable, qi_stable, qi_stable, qi_stable, qi_stable, qi_stable, qi_stable, qi_stable, qi_stable, trivial⟩ [3, 6, 9] ⟨?_, ?_, ?_, ?_, ?_, ?_, ?_, ?_, ?_, ?_, trivial⟩ ?_
  · exact stq (fun E => ex_move rfl (E.v oe0))
  · exact stq (fun E => ex_field rfl Try.underlying87 rfl (by kernel_rfl) (E.v oe3))
  · exact stq (fun E => ex_load1 rfl Try.underlying3 rfl (E.d 1) (Cs.hd1 (HB3.out.mod E.m (by intro h2; rcases h2 with ⟨h0, h2⟩ | h2 <;> first | omega | (have hb := HBR.out _ h2; omega))) rfl))
  · exact stepq_chain rfl
  · exact stq (fun E => ex_field rfl Try.underlying87 rfl (by kernel_rfl) (E.v oe3))
  · exact stq (fun E => ex_load1 rfl Try.underlying38 rfl (E.d 4) (Cs.hd1 (HB3.out.mod E.m (by intro h2; rcases h2 with ⟨h0, h2⟩ | h2 <;> first | omega | (have hb := HBR.out _ h2; omega))) rfl))
  · exact stepq_chain rfl
  · exact stq (fun E => ex_field rfl Try.underlying87 rfl (by kernel_rfl) (E.v oe3))
  · exact stq (fun E => ex_loadA rfl Try.underlying25 rfl (off := 2) (cs := x.nc.map bv) (by rw [List.length_map, HOK.out.2.1]; exact size_hash) (E.d 7) (Cs.tlA (HB3.out.mod E.m (by intro h2; rcases h2 with ⟨h0, h2⟩ | h2 <;> first | omega | (have hb := HBR.out _ h2; omega))) rfl))
  · exact stepq_chain rfl
  intro u1_0 hr
  have zu1_0 := hr.size
  have Cx3 := hid (hr.new (S := (fun k => (R k))))
  have Hx4 := hid (Hx1.out.mod hr (by intro k h1 h2; have hb := HBR.out k h1; omega))
  clear Hx1
  clear hr
  refine QChain.go fun Z act E => ?_
  refine qc_callF (args := #[.pointer (some ⟨g, 0, none⟩), .int .i64 x.ix]) rfl (wanted_none rfl) rfl Try.func64 (args2 (E.d 0) (E.d 2)) (WInt_Q Hx4.out HOK.out.1 (by have := HL.out; simp only [List.length_append] at this ⊢; omega)) ?_
  rintro e u1_1a ⟨rfl, qwr, hm⟩
  have zu1_1a := hm.size
  refine ⟨_, rfl, hm.mono (by intro k hk h; first | omega | exact Or.inl ⟨(by have hb := HBR.out k h; omega), Or.inl ⟨rfl, h⟩⟩), (fun _ => rfl), ?_⟩
  intro u1_1 hr
  have zu1_1 := hr.size
  have Hx5 := hid ((qwr.widen (R' := (fun k => (R k) ∨ (New u1_0 u1_1a k))) (fun _ h => h) (Nat.le_refl _)).mod hr (by intro k h1 h2; rcases h1 with h1 | h1 <;> first | omega | (have hb := HBR.out k h1; omega)))
  have Cx6 := hid (Cx3.out.goM hm hr (fun _ _ h => h))
  clear Cx3 hm hr Z act E qwr Hx4
  refine QChain.go fun Z act E => ?_
  refine qc_callF (args := #[.pointer (some ⟨g, 0, none⟩), v_pl]) rfl (wanted_none rfl) rfl Try.func107 (args2 (E.d 3) (E.d 5)) (WRow_Q Hx5.out (Hx2.out.mod Cx6.out (by intro k h1 h2; first | omega | (have hb := HBT.out k h1; omega) | (have hb := HBR.out k h2; omega) | exact HDJ.out k h1 h2 | exact HDJ.out k h2 h1 | (have hb := HBT.out k h1; have hb2 := HBR.out k h2; omega))) (by intro k h1 h2; rcases h2 with h2 | h2 <;> first | omega | (have hb := HBT.out k h1; omega) | (have hb := HBR.out k h2; omega) | exact HDJ.out k h1 h2 | exact HDJ.out k h2 h1 | (have hb := HBT.out k h1; have hb2 := HBR.out k h2; omega)) (by have := HL.out; simp only [List.length_append] at this ⊢; omega)) ?_
  rintro e u1_2a ⟨rfl, qwr, hm⟩
  have zu1_2a := hm.size
  refine ⟨_, rfl, hm.mono (by intro k hk h; rcases h with h | h <;> first | omega | exact Or.inl ⟨(by have hb := HBR.out k h; omega), Or.inr (Or.inl ⟨rfl, h⟩)⟩), (fun _ => rfl), ?_⟩
  intro u1_2 hr
  have zu1_2 := hr.size
  have Hx7 := hid ((qwr.widen (R' := (fun k => (R k) ∨ (New u1_0 u1_1a k) ∨ (New u1_1 u1_2a k))) (by intro k h1; simp only [or_assoc] at h1 ⊢; exact h1) (Nat.le_refl _)).mod hr (by intro k h1 h2; rcases h1 with h1 | h1 | h1 <;> first | omega | (have hb := HBR.out k h1; omega)))
  have Cx8 := hid (Cx6.out.goM hm hr (by intro k h0 h2; rcases h2 with h2 | h2 <;> first | omega | exact h2))
  clear Cx6 hm hr Z act E qwr Hx5
  refine QChain.go fun Z act E => ?_
  refine qc_callF (args := #[.pointer (some ⟨g, 0, none⟩), hv x.nc]) rfl (wanted_none rfl) rfl Try.func66 (args2 (E.d 6) (E.d 8)) (WHash_Q Hx7.out HOK.out.2 (by have := HL.out; simp only [List.length_append] at this ⊢; omega)) ?_
  rintro e u1_3a ⟨rfl, qwr, hm⟩
  have zu1_3a := hm.size
  refine ⟨_, rfl, hm.mono (by intro k hk h; rcases h with h | h | h <;> first | omega | exact Or.inl ⟨(by have hb := HBR.out k h; omega), Or.inr (Or.inr (⟨rfl, h⟩))⟩), (fun _ => rfl), ?_⟩
  intro u1_3 hr
  have zu1_3 := hr.size
  have Hx9 := hid ((qwr.widen (R' := (fun k => (R k) ∨ (New u1_0 u1_1a k) ∨ (New u1_1 u1_2a k) ∨ (New u1_2 u1_3a k))) (by intro k h1; simp only [or_assoc] at h1 ⊢; exact h1) (Nat.le_refl _)).mod hr (by intro k h1 h2; rcases h1 with h1 | h1 | h1 | h1 <;> first | omega | (have hb := HBR.out k h1; omega)))
  have Cx10 := hid (Cx8.out.goM hm hr (by intro k h0 h2; rcases h2 with h2 | h2 | h2 <;> first | omega | exact h2))
  clear Cx8 hm hr Z act E qwr Hx7
  refine QChain.nil fun vs hl hzz hrows hne => ?_
  obtain ⟨Z, hYZ, hZb, hV⟩ := hzz
  have f0 := fvi hV hl 0
  have f3 := fvi hV hl 3
  have f6 := fvi hV hl 6
  have f9 := fvi hV hl 9
  rw [show vs = [gw vs 0, gw vs 1, gw vs 2, gw vs 3, gw vs 4, gw vs 5, gw vs 6, gw vs 7, gw vs 8, gw vs 9] from (gw_eta hl).trans rfl]
  have ha0 := HA0.out
  subst ha0
  clear HA0 hV hYZ hZb hsz0 hrows hne oe0 oe3
  simp only [putAll, Act.put, List.setIfInBounds_toArray, List.set_cons_zero, List.set_cons_succ, f0, f3, f6, f9]
  clear hl f0 f3 f6 f9
  go_wp2
  go_end0
  have hq := (Hx9.out.widen (R' := (fun k => R k ∨ New w u1_3 k)) (by intro k h1; rcases h1 with h1 | h1 | h1 | h1 <;> first | exact Or.inl h1 | (right; omega)) (Nat.le_refl _))
  simp only [List.append_assoc] at hq
  exact ⟨rfl, by simpa only [opB, List.append_assoc] using hq, (HM0.out.trans Cx10.out (fun _ _ h => h))⟩
set_option maxHeartbeats 4000000 in
theorem PutList_Op : PutsL OpR 131 132 opB := by
  intro R R2 g bs v l w hW hB hs hB2 hD hl
  obtain ⟨ao, cap, rfl⟩ := hs.shape
  have hb64 : l.length ≤ maxLen := hs.bd
  rw [maxLen_val] at hb64
  have HI64 := hid (show I64 (l.length : Int) by unfold I64; omega)
  have HW := Lib.hid hW
  have HS := Lib.hid hs
  have HBR := Lib.hid hB
  have HBT := Lib.hid hB2
  have HDJ := Lib.hid hD
  have HL := Lib.hid hl
  clear hW hB hs hB2 hD hl
  unfold listB at HL
  go_enter Try.func131, Try.ntmps131
  go_upto_region 0 with (fail)
  have HM0 := hid (Mod.refl (fun k => (R k)) w)
  go_upto_region 0 with (fail)
  refine wp_region_U 23 [8, 9, 10, 11] [0, 1, 2, 3] (fun a0 HA0 => ?_)
  have oe0 := ev HA0 0 rfl
  have oe1 := ev HA0 1 rfl
  refine QSeq.pure rfl _ (fun E => ex_move rfl (E.v oe0)) ?_
  refine QSeq.pure rfl _ (fun E => ex_move rfl (E.v oe1)) ?_
  refine QSeq.pure rfl (.int .i64 l.length) (fun E => ex_lenS rfl (E.d 1 0) Try.underlying57) ?_
  refine QSeq.call rfl rfl Try.func64 (WInt_Q HW.out HI64.out (by have := HL.out; simp only [List.length_append] at this ⊢; omega)) (fun E => args2 (E.d 0 2) (E.d 2 0)) ?_
  rintro e u0_3 ⟨rfl, qwr, hm⟩
  refine ⟨_, rfl, ?_⟩
  have Hx1 := hid (qwr.widen (R' := (fun k => (R k) ∨ (New w u0_3 k))) (fun _ h => h) (Nat.le_refl _))
  have zu0_3 := hm.size
  have Cx2 := hid (show Mod (fun k => (R k)) w u0_3 from hm)
  clear hm
  clear qwr HW
  refine QSeq.nil (t' := [_, _, _, _]) rfl ?_
  obtain rfl := HA0.out
  clear HA0 oe0 oe1
  simp only [pz, Act.put, List.setIfInBounds_toArray, List.set_cons_zero, List.set_cons_succ]
  go_wp2
  go_loopw [14] (fun t wr => ∃ k : Nat, t = .int .i64 (k : Int) ∧ k ≤ l.length ∧ u0_3.heap.size ≤ wr.heap.size ∧ WrR (fun b => R b ∨ (w.heap.size ≤ b ∧ b < wr.heap.size)) 900000 wr g (bs ++ (encI l.length ++ ((l.take k).map opB).flatten)) ∧ RdS OpR R2 wr (.slice ao l.length cap) l ∧ Mod R w wr) (fun t _ => l.length - (intOf t).toNat)
  case atStart => exact ⟨0, rfl, Nat.zero_le _, Nat.le_refl _, by have hq := (Hx1.out.widen (R' := (fun k => R k ∨ (w.heap.size ≤ k ∧ k < u0_3.heap.size))) (by intro k h1; rcases h1 with h1 | h1 <;> first | exact Or.inl h1 | (right; omega)) (Nat.le_refl _)); simpa only [List.take_zero, List.map_nil, List.flatten_nil, List.append_nil] using hq, (HS.out.mod Cx2.out (by intro k h1 h2; first | omega | (have hb := HBT.out k h1; omega) | (have hb := HBR.out k h2; omega) | exact HDJ.out k h1 h2 | exact HDJ.out k h2 h1 | (have hb := HBT.out k h1; have hb2 := HBR.out k h2; omega))), (HM0.out.trans Cx2.out (fun _ _ h => h))⟩
  case round =>
    obtain ⟨k, rfl, hk, hz, hw, hs, hm⟩ := hrel
    have HW2 := Lib.hid hw
    have HS2 := Lib.hid hs
    have HM2 := Lib.hid hm
    clear hw hs hm Hx1 HS HM0
    obtain ⟨wo, rfl⟩ : ∃ x, x = wr := ⟨_, rfl⟩
    by_cases hlt : k < l.length
    · skip
      obtain ⟨g0, o0, cs, rfl, hrg, hrd, hcs⟩ := HS2.out.at hlt
      have hcl : cs.length = 34 := OpR.len hrd
      have HCL := Lib.hid hcl
      have HAT := hid (show CellsAt R2 wo g0 (o0 + k * 34) cs from ⟨hrg, hcs⟩)
      have HRD := Lib.hid hrd
      have HOC := hid (OpR.one hrd)
      clear hcl hcs hrd hrg
      have HE : Hid (bs ++ (encI l.length ++ ((l.take k).map opB).flatten) ++ opB l[k] = bs ++ (encI l.length ++ ((l.take (k + 1)).map opB).flatten)) := hid (by rw [List.take_succ_eq_append_getElem hlt, List.map_append, List.flatten_append]; simp [List.append_assoc])
      have HLk := hid (show (bs ++ (encI l.length ++ ((l.take k).map opB).flatten) ++ opB l[k]).length ≤ 900000 by rw [HE.out]; exact Nat.le_trans (put_len _ _ _ _ _) HL.out)
      go_upto_region 3 with (fail)
      refine wp_region_U 23 [16, 17, 7, 26] [0, 1, 2, 3] (fun a0 HA0 => ?_)
      have oe12 := ev HA0 12 rfl
      have oe14 := ev HA0 14 rfl
      refine QSeq.pure rfl (.pointer (some ⟨g0, o0 + k * 34, none⟩)) (fun E => ex_idxS (i := k) (s := 34) rfl Try.underlying57 (by kernel_rfl) (E.v oe12) (E.v oe14) (by omega)) ?_
      refine QSeq.pure rfl _ (fun E => ex_loadA rfl Try.underlying87 rfl (off := o0 + k * 34) (cs := cs) (by rw [HCL.out]; kernel_rfl) (E.d 0 0) (fun j u hu => (HAT.out).2 j u hu)) ?_
      refine QSeq.go fun act E => ?_
      refine qc_alloc rfl (wanted_none rfl) rfl (z := [.int .i64 0, .slice none 0 0, .int .u8 0, .int .u8 0, .int .u8 0, .int .u8 0, .int .u8 0, .int .u8 0, .int .u8 0, .int .u8 0, .int .u8 0, .int .u8 0, .int .u8 0, .int .u8 0, .int .u8 0, .int .u8 0, .int .u8 0, .int .u8 0, .int .u8 0, .int .u8 0, .int .u8 0, .int .u8 0, .int .u8 0, .int .u8 0, .int .u8 0, .int .u8 0, .int .u8 0, .int .u8 0, .int .u8 0, .int .u8 0, .int .u8 0, .int .u8 0, .int .u8 0, .int .u8 0]) (by kernel_rfl) ?_
      intro u3_2 qq hm
      have zl3_2 := qq.lt
      have Hx3 := hid qq
      have zu3_2 := hm.size
      have Cx4 := hid (show Mod (fun _ => False) wo u3_2 from hm)
      clear hm
      clear act E qq
      refine QSeq.go fun act E => ?_
      have hlz : (cs).length = List.length ([.int .i64 0, .slice none 0 0, .int .u8 0, .int .u8 0, .int .u8 0, .int .u8 0, .int .u8 0, .int .u8 0, .int .u8 0, .int .u8 0, .int .u8 0, .int .u8 0, .int .u8 0, .int .u8 0, .int .u8 0, .int .u8 0, .int .u8 0, .int .u8 0, .int .u8 0, .int .u8 0, .int .u8 0, .int .u8 0, .int .u8 0, .int .u8 0, .int .u8 0, .int .u8 0, .int .u8 0, .int .u8 0, .int .u8 0, .int .u8 0, .int .u8 0, .int .u8 0, .int .u8 0, .int .u8 0] : List Value) := (by rw [HCL.out]; rfl)
      refine qc_store rfl (wanted_none rfl) rfl Hx3.out (off := 0) (vs := cs) (by rw [hlz]; kernel_rfl) HOC.out (by rw [hlz]; exact Nat.le_of_eq (Nat.zero_add _)) (E.d 2 0) (ec (E.d 1 1)) ?_
      intro u3_3 qc0 hm
      have qq := qc0.eqv (b := (cs : List Value).toArray) (lay_whole #[.int .i64 0, .slice none 0 0, .int .u8 0, .int .u8 0, .int .u8 0, .int .u8 0, .int .u8 0, .int .u8 0, .int .u8 0, .int .u8 0, .int .u8 0, .int .u8 0, .int .u8 0, .int .u8 0, .int .u8 0, .int .u8 0, .int .u8 0, .int .u8 0, .int .u8 0, .int .u8 0, .int .u8 0, .int .u8 0, .int .u8 0, .int .u8 0, .int .u8 0, .int .u8 0, .int .u8 0, .int .u8 0, .int .u8 0, .int .u8 0, .int .u8 0, .int .u8 0, .int .u8 0, .int .u8 0] _ (by rw [hlz]; rfl))
      clear qc0 hlz
      have Hx5 := hid qq
      have zu3_3 := hm.size
      have HMu3_3 := hid hm
      have Cx6 := hid (Mod.goS (S' := (fun _ => False)) Cx4.out hm (fun _ h => h) (by intro k h0 h2; omega))
      clear hm Cx4
      clear act E qq Hx3
      clear HMu3_3
      refine QSeq.nil (t' := [_, _, _, _]) rfl ?_
      obtain rfl := HA0.out
      clear HA0 oe12 oe14
      simp only [pz, Act.put, List.setIfInBounds_toArray, List.set_cons_zero, List.set_cons_succ, List.set_nil]
      go_upto_region 4 with (fail)
      refine wp_region_U 23 [18, 19, 20, 21] [0, 1, 2, 3] (fun a0 HA0 => ?_)
      have oe0 := ev HA0 0 rfl
      have oe2 := ev HA0 2 rfl
      have oe7 := ev HA0 7 rfl
      refine QSeq.pure rfl _ (fun E => ex_move rfl (E.v oe2)) ?_
      refine QSeq.pure rfl _ (fun E => ex_move rfl (E.v oe0)) ?_
      refine QSeq.pure rfl _ (fun E => ex_loadA rfl Try.underlying87 rfl (off := 0) (cs := cs) (by rw [HCL.out]; kernel_rfl) (E.v oe7) (Cs.whole Hx5.out)) ?_
      refine QSeq.go fun act E => ?_
      have ea19 : act.eval (.tmp 19) = .pointer (some ⟨g, 0, none⟩) := (E.d 1 1)
      have ea20 : act.eval (.tmp 20) = .agg cs.toArray := (E.d 2 0)
      refine qc_call (args := #[.pointer (some ⟨g, 0, none⟩), .agg cs.toArray]) rfl (wanted_none rfl) (by rw [ex_callV rfl (E.d 0 2) Try.func132 (by kernel_rfl) (by kernel_rfl)]; exact congrArg (fun z => Result.ok (Next.enter _ z) _) (by simp only [List.map_toArray, List.map_cons, List.map_nil, ea19, ea20]; try rfl)) (PutOp_Q _ _ _ _ _ _ _ (HW2.out.mod Cx6.out (fun _ _ h => h)) (by intro k h1; rcases h1 with h1 | h1 <;> first | omega | (have hb := HBR.out k h1; omega)) (HRD.out.mod Cx6.out (fun _ _ h => h)) (by intro k h1; have hb := HBT.out k h1; omega) (by intro k h1 h2; rcases h1 with h1 | h1 <;> first | omega | (have hb := HBR.out k h1; omega) | (have hb := HBT.out k h2; omega) | exact HDJ.out k h1 h2 | exact HDJ.out k h2 h1 | (have hb := HBR.out k h1; have hb2 := HBT.out k h2; omega)) HLk.out) ?_
      rintro e u4_3 ⟨rfl, qwr, hm⟩
      refine ⟨_, rfl, ?_⟩
      have Hx7 := hid (qwr.widen (R' := (fun k => (R k) ∨ (New w wo k) ∨ (New u3_3 u4_3 k))) (by intro k h1; simp only [or_assoc] at h1 ⊢; exact h1) (Nat.le_refl _))
      have zu4_3 := hm.size
      have Cx8 := hid (show Mod (fun k => (R k) ∨ (New w wo k)) u3_3 u4_3 from hm)
      clear hm
      clear act E qwr HW2 ea19 ea20
      refine QSeq.nil (t' := [_, _, _, _]) rfl ?_
      obtain rfl := HA0.out
      clear HA0 oe0 oe2 oe7
      simp only [pz, Act.put, List.setIfInBounds_toArray, List.set_cons_zero, List.set_cons_succ]
      have hq := Hx7.out
      rw [HE.out] at hq
      have HQ := Lib.hid hq
      clear hq
      go_wp2
      go_roundw
      case rel => exact ⟨k + 1, by go_num, by omega, by omega, (HQ.out.widen (by intro b h1; rcases h1 with h1 | h1 | h1 <;> first | exact Or.inl h1 | (right; omega)) (Nat.le_refl _)), ((HS2.out.mod Cx6.out (fun _ _ h => h)).mod Cx8.out (by intro k h1 h2; rcases h2 with h2 | h2 <;> first | omega | (have hb := HBT.out k h1; omega) | (have hb := HBR.out k h2; omega) | exact HDJ.out k h1 h2 | exact HDJ.out k h2 h1 | (have hb := HBT.out k h1; have hb2 := HBR.out k h2; omega))), ((HM2.out.trans Cx6.out (fun _ _ h => h.elim)).trans Cx8.out (by intro k h1 h2; rcases h2 with h2 | h2 <;> first | exact h2 | omega | (have hb := HBR.out k h2; omega)))⟩
      case measure => simp [intOf]; omega
    · have hkk : k = l.length := by omega
      subst hkk
      go_wp2
      go_end0
      have hq := HW2.out
      rw [List.take_length] at hq
      exact ⟨rfl, hq, HM2.out⟩
set_option maxHeartbeats 4000000 in
theorem PutList_Ce : PutsL CeR 105 98 ceB := by
  intro R R2 g bs v l w hW hB hs hB2 hD hl
  obtain ⟨ao, cap, rfl⟩ := hs.shape
  have hb64 : l.length ≤ maxLen := hs.bd
  rw [maxLen_val] at hb64
  have HI64 := hid (show I64 (l.length : Int) by unfold I64; omega)
  have HW := Lib.hid hW
  have HS := Lib.hid hs
  have HBR := Lib.hid hB
  have HBT := Lib.hid hB2
  have HDJ := Lib.hid hD
  have HL := Lib.hid hl
  clear hW hB hs hB2 hD hl
  unfold listB at HL
  go_enter Try.func105, Try.ntmps105
  go_upto_region 0 with (fail)
  have HM0 := hid (Mod.refl (fun k => (R k)) w)
  go_upto_region 0 with (fail)
  refine wp_region_U 23 [8, 9, 10, 11] [0, 1, 2, 3] (fun a0 HA0 => ?_)
  have oe0 := ev HA0 0 rfl
  have oe1 := ev HA0 1 rfl
  refine QSeq.pure rfl _ (fun E => ex_move rfl (E.v oe0)) ?_
  refine QSeq.pure rfl _ (fun E => ex_move rfl (E.v oe1)) ?_
  refine QSeq.pure rfl (.int .i64 l.length) (fun E => ex_lenS rfl (E.d 1 0) Try.underlying53) ?_
  refine QSeq.call rfl rfl Try.func64 (WInt_Q HW.out HI64.out (by have := HL.out; simp only [List.length_append] at this ⊢; omega)) (fun E => args2 (E.d 0 2) (E.d 2 0)) ?_
  rintro e u0_3 ⟨rfl, qwr, hm⟩
  refine ⟨_, rfl, ?_⟩
  have Hx1 := hid (qwr.widen (R' := (fun k => (R k) ∨ (New w u0_3 k))) (fun _ h => h) (Nat.le_refl _))
  have zu0_3 := hm.size
  have Cx2 := hid (show Mod (fun k => (R k)) w u0_3 from hm)
  clear hm
  clear qwr HW
  refine QSeq.nil (t' := [_, _, _, _]) rfl ?_
  obtain rfl := HA0.out
  clear HA0 oe0 oe1
  simp only [pz, Act.put, List.setIfInBounds_toArray, List.set_cons_zero, List.set_cons_succ]
  go_wp2
  go_loopw [14] (fun t wr => ∃ k : Nat, t = .int .i64 (k : Int) ∧ k ≤ l.length ∧ u0_3.heap.size ≤ wr.heap.size ∧ WrR (fun b => R b ∨ (w.heap.size ≤ b ∧ b < wr.heap.size)) 900000 wr g (bs ++ (encI l.length ++ ((l.take k).map ceB).flatten)) ∧ RdS CeR R2 wr (.slice ao l.length cap) l ∧ Mod R w wr) (fun t _ => l.length - (intOf t).toNat)
  case atStart => exact ⟨0, rfl, Nat.zero_le _, Nat.le_refl _, by have hq := (Hx1.out.widen (R' := (fun k => R k ∨ (w.heap.size ≤ k ∧ k < u0_3.heap.size))) (by intro k h1; rcases h1 with h1 | h1 <;> first | exact Or.inl h1 | (right; omega)) (Nat.le_refl _)); simpa only [List.take_zero, List.map_nil, List.flatten_nil, List.append_nil] using hq, (HS.out.mod Cx2.out (by intro k h1 h2; first | omega | (have hb := HBT.out k h1; omega) | (have hb := HBR.out k h2; omega) | exact HDJ.out k h1 h2 | exact HDJ.out k h2 h1 | (have hb := HBT.out k h1; have hb2 := HBR.out k h2; omega))), (HM0.out.trans Cx2.out (fun _ _ h => h))⟩
  case round =>
    obtain ⟨k, rfl, hk, hz, hw, hs, hm⟩ := hrel
    have HW2 := Lib.hid hw
    have HS2 := Lib.hid hs
    have HM2 := Lib.hid hm
    clear hw hs hm Hx1 HS HM0
    obtain ⟨wo, rfl⟩ : ∃ x, x = wr := ⟨_, rfl⟩
    by_cases hlt : k < l.length
    · skip
      obtain ⟨g0, o0, cs, rfl, hrg, hrd, hcs⟩ := HS2.out.at hlt
      have hcl : cs.length = 38 := CeR.len hrd
      have HCL := Lib.hid hcl
      have HAT := hid (show CellsAt R2 wo g0 (o0 + k * 38) cs from ⟨hrg, hcs⟩)
      have HRD := Lib.hid hrd
      have HOC := hid (CeR.one hrd)
      clear hcl hcs hrd hrg
      have HE : Hid (bs ++ (encI l.length ++ ((l.take k).map ceB).flatten) ++ ceB l[k] = bs ++ (encI l.length ++ ((l.take (k + 1)).map ceB).flatten)) := hid (by rw [List.take_succ_eq_append_getElem hlt, List.map_append, List.flatten_append]; simp [List.append_assoc])
      have HLk := hid (show (bs ++ (encI l.length ++ ((l.take k).map ceB).flatten) ++ ceB l[k]).length ≤ 900000 by rw [HE.out]; exact Nat.le_trans (put_len _ _ _ _ _) HL.out)
      go_upto_region 3 with (fail)
      refine wp_region_U 23 [16, 17, 7, 26] [0, 1, 2, 3] (fun a0 HA0 => ?_)
      have oe12 := ev HA0 12 rfl
      have oe14 := ev HA0 14 rfl
      refine QSeq.pure rfl (.pointer (some ⟨g0, o0 + k * 38, none⟩)) (fun E => ex_idxS (i := k) (s := 38) rfl Try.underlying53 (by kernel_rfl) (E.v oe12) (E.v oe14) (by omega)) ?_
      refine QSeq.pure rfl _ (fun E => ex_loadA rfl Try.underlying52 rfl (off := o0 + k * 38) (cs := cs) (by rw [HCL.out]; kernel_rfl) (E.d 0 0) (fun j u hu => (HAT.out).2 j u hu)) ?_
      refine QSeq.go fun act E => ?_
      refine qc_alloc rfl (wanted_none rfl) rfl (z := [.int .i64 0, .int .i64 0, .int .u8 0, .int .u8 0, .int .u8 0, .int .u8 0, .int .u8 0, .int .u8 0, .int .u8 0, .int .u8 0, .int .u8 0, .int .u8 0, .int .u8 0, .int .u8 0, .int .u8 0, .int .u8 0, .int .u8 0, .int .u8 0, .int .u8 0, .int .u8 0, .int .u8 0, .int .u8 0, .int .u8 0, .int .u8 0, .int .u8 0, .int .u8 0, .int .u8 0, .int .u8 0, .int .u8 0, .int .u8 0, .int .u8 0, .int .u8 0, .int .u8 0, .int .u8 0, .int .i64 0, .int .i64 0, .int .i64 0, .slice none 0 0]) (by kernel_rfl) ?_
      intro u3_2 qq hm
      have zl3_2 := qq.lt
      have Hx3 := hid qq
      have zu3_2 := hm.size
      have Cx4 := hid (show Mod (fun _ => False) wo u3_2 from hm)
      clear hm
      clear act E qq
      refine QSeq.go fun act E => ?_
      have hlz : (cs).length = List.length ([.int .i64 0, .int .i64 0, .int .u8 0, .int .u8 0, .int .u8 0, .int .u8 0, .int .u8 0, .int .u8 0, .int .u8 0, .int .u8 0, .int .u8 0, .int .u8 0, .int .u8 0, .int .u8 0, .int .u8 0, .int .u8 0, .int .u8 0, .int .u8 0, .int .u8 0, .int .u8 0, .int .u8 0, .int .u8 0, .int .u8 0, .int .u8 0, .int .u8 0, .int .u8 0, .int .u8 0, .int .u8 0, .int .u8 0, .int .u8 0, .int .u8 0, .int .u8 0, .int .u8 0, .int .u8 0, .int .i64 0, .int .i64 0, .int .i64 0, .slice none 0 0] : List Value) := (by rw [HCL.out]; rfl)
      refine qc_store rfl (wanted_none rfl) rfl Hx3.out (off := 0) (vs := cs) (by rw [hlz]; kernel_rfl) HOC.out (by rw [hlz]; exact Nat.le_of_eq (Nat.zero_add _)) (E.d 2 0) (ec (E.d 1 1)) ?_
      intro u3_3 qc0 hm
      have qq := qc0.eqv (b := (cs : List Value).toArray) (lay_whole #[.int .i64 0, .int .i64 0, .int .u8 0, .int .u8 0, .int .u8 0, .int .u8 0, .int .u8 0, .int .u8 0, .int .u8 0, .int .u8 0, .int .u8 0, .int .u8 0, .int .u8 0, .int .u8 0, .int .u8 0, .int .u8 0, .int .u8 0, .int .u8 0, .int .u8 0, .int .u8 0, .int .u8 0, .int .u8 0, .int .u8 0, .int .u8 0, .int .u8 0, .int .u8 0, .int .u8 0, .int .u8 0, .int .u8 0, .int .u8 0, .int .u8 0, .int .u8 0, .int .u8 0, .int .u8 0, .int .i64 0, .int .i64 0, .int .i64 0, .slice none 0 0] _ (by rw [hlz]; rfl))
      clear qc0 hlz
      have Hx5 := hid qq
      have zu3_3 := hm.size
      have HMu3_3 := hid hm
      have Cx6 := hid (Mod.goS (S' := (fun _ => False)) Cx4.out hm (fun _ h => h) (by intro k h0 h2; omega))
      clear hm Cx4
      clear act E qq Hx3
      clear HMu3_3
      refine QSeq.nil (t' := [_, _, _, _]) rfl ?_
      obtain rfl := HA0.out
      clear HA0 oe12 oe14
      simp only [pz, Act.put, List.setIfInBounds_toArray, List.set_cons_zero, List.set_cons_succ, List.set_nil]
      go_upto_region 4 with (fail)
      refine wp_region_U 23 [18, 19, 20, 21] [0, 1, 2, 3] (fun a0 HA0 => ?_)
      have oe0 := ev HA0 0 rfl
      have oe2 := ev HA0 2 rfl
      have oe7 := ev HA0 7 rfl
      refine QSeq.pure rfl _ (fun E => ex_move rfl (E.v oe2)) ?_
      refine QSeq.pure rfl _ (fun E => ex_move rfl (E.v oe0)) ?_
      refine QSeq.pure rfl _ (fun E => ex_loadA rfl Try.underlying52 rfl (off := 0) (cs := cs) (by rw [HCL.out]; kernel_rfl) (E.v oe7) (Cs.whole Hx5.out)) ?_
      refine QSeq.go fun act E => ?_
      have ea19 : act.eval (.tmp 19) = .pointer (some ⟨g, 0, none⟩) := (E.d 1 1)
      have ea20 : act.eval (.tmp 20) = .agg cs.toArray := (E.d 2 0)
      refine qc_call (args := #[.pointer (some ⟨g, 0, none⟩), .agg cs.toArray]) rfl (wanted_none rfl) (by rw [ex_callV rfl (E.d 0 2) Try.func98 (by kernel_rfl) (by kernel_rfl)]; exact congrArg (fun z => Result.ok (Next.enter _ z) _) (by simp only [List.map_toArray, List.map_cons, List.map_nil, ea19, ea20]; try rfl)) (PutCe_Q _ _ _ _ _ _ _ (HW2.out.mod Cx6.out (fun _ _ h => h)) (by intro k h1; rcases h1 with h1 | h1 <;> first | omega | (have hb := HBR.out k h1; omega)) (HRD.out.mod Cx6.out (fun _ _ h => h)) (by intro k h1; have hb := HBT.out k h1; omega) (by intro k h1 h2; rcases h1 with h1 | h1 <;> first | omega | (have hb := HBR.out k h1; omega) | (have hb := HBT.out k h2; omega) | exact HDJ.out k h1 h2 | exact HDJ.out k h2 h1 | (have hb := HBR.out k h1; have hb2 := HBT.out k h2; omega)) HLk.out) ?_
      rintro e u4_3 ⟨rfl, qwr, hm⟩
      refine ⟨_, rfl, ?_⟩
      have Hx7 := hid (qwr.widen (R' := (fun k => (R k) ∨ (New w wo k) ∨ (New u3_3 u4_3 k))) (by intro k h1; simp only [or_assoc] at h1 ⊢; exact h1) (Nat.le_refl _))
      have zu4_3 := hm.size
      have Cx8 := hid (show Mod (fun k => (R k) ∨ (New w wo k)) u3_3 u4_3 from hm)
      clear hm
      clear act E qwr HW2 ea19 ea20
      refine QSeq.nil (t' := [_, _, _, _]) rfl ?_
      obtain rfl := HA0.out
      clear HA0 oe0 oe2 oe7
      simp only [pz, Act.put, List.setIfInBounds_toArray, List.set_cons_zero, List.set_cons_succ]
      have hq := Hx7.out
      rw [HE.out] at hq
      have HQ := Lib.hid hq
      clear hq
      go_wp2
      go_roundw
      case rel => exact ⟨k + 1, by go_num, by omega, by omega, (HQ.out.widen (by intro b h1; rcases h1 with h1 | h1 | h1 <;> first | exact Or.inl h1 | (right; omega)) (Nat.le_refl _)), ((HS2.out.mod Cx6.out (fun _ _ h => h)).mod Cx8.out (by intro k h1 h2; rcases h2 with h2 | h2 <;> first | omega | (have hb := HBT.out k h1; omega) | (have hb := HBR.out k h2; omega) | exact HDJ.out k h1 h2 | exact HDJ.out k h2 h1 | (have hb := HBT.out k h1; have hb2 := HBR.out k h2; omega))), ((HM2.out.trans Cx6.out (fun _ _ h => h.elim)).trans Cx8.out (by intro k h1 h2; rcases h2 with h2 | h2 <;> first | exact h2 | omega | (have hb := HBR.out k h2; omega)))⟩
      case measure => simp [intOf]; omega
    · have hkk : k = l.length := by omega
      subst hkk
      go_wp2
      go_end0
      have hq := HW2.out
      rw [List.take_length] at hq
      exact ⟨rfl, hq, HM2.out⟩
set_option maxHeartbeats 4000000 in
theorem PutPm_Q : Puts PmR 99 pmB := by
  intro R R2 g bs cs x w hW hB hx hB2 hD hl
  obtain ⟨v_l, rfl, hok, hs0⟩ := hx
  have HS0 := Lib.hid hs0
  clear hs0
  have HW := Lib.hid hW
  have HBR := Lib.hid hB
  have HBT := Lib.hid hB2
  have HDJ := Lib.hid hD
  have HOK := Lib.hid hok
  have HL := Lib.hid hl
  clear hW hB hB2 hD hl hok
  unfold pmB at HL
  go_enter Try.func99, Try.ntmps99
  go_upto_region 1 with (fail)
  obtain ⟨w1, hw1⟩ : ∃ zz, zz = (w.alloc (.cells (x.cells v_l : List Value).toArray 55)) := ⟨_, rfl⟩
  change Code.wp _ _ _ _ (w.alloc (.cells (x.cells v_l : List Value).toArray 55))
  rw [← hw1]
  have HB3 := hid (show Cs w1 (w.heap.size) (x.cells v_l : List Value).toArray 55 by rw [hw1]; exact Cs.new _ _ _)
  have hm : Mod (fun _ => False) w w1 := by rw [hw1]; exact (Mod.refl _ _).alloc _
  have HM0 := hid (show Mod (fun k => (R k)) w w1 from hm.mono (fun _ _ h => h.elim))
  have hs1 : w1.heap.size = w.heap.size + 1 := by rw [hw1]; simp
  have Hx1 := hid (HW.out.mod hm (fun _ _ h => h))
  clear HW
  have Hx2 := hid (HS0.out.mod hm (fun _ _ h => h))
  clear HS0
  clear hw1 hm
  go_upto_region 1 with (fail)
  generalize ha0 : Act.mk _ _ = a0
  have oe0 : a0.eval (.tmp 0) = .pointer (some ⟨g, 0, none⟩) := by rw [← ha0]; rfl
  have oe3 : a0.eval (.tmp 3) = .pointer (some ⟨w.heap.size, 0, none⟩) := by rw [← ha0]; rfl
  have hsz0 : a0.tmps.size = 22 := by rw [← ha0]; rfl
  have HA0 := hid ha0
  clear ha0
  refine wp_region_Q1 22 hsz0 [4, 5, 6, 7, 8, 9, 10, 11, 12, 13] (fun k => (R k)) (fun k j => (k = 0 ∧ ((R j))) ∨ (k = 1 ∧ ((R j))) ∨ (k = 2 ∧ ((R j)))) (by intro k j h; (try dsimp only at h ⊢); rcases h with ⟨-, h⟩ | ⟨-, h⟩ | ⟨-, h⟩; (exact h); (exact h); (exact h)) [qi (.pointer (some ⟨g, 0, none⟩)), qi (.pointer (some ⟨w.heap.size, 0, none⟩)), qi (.int .i64 x.rp), qi (.pointer (some ⟨g, 0, none⟩)), qi (.pointer (some ⟨w.heap.size, 1, none⟩)), qi (.int .i64 x.ep), qi (.pointer (some ⟨g, 0, none⟩)), qi (.pointer (some ⟨w.heap.size, 2, none⟩)), qi (.int .u64 (x.fl : Nat)), qi (.pointer (some ⟨g, 0, none⟩))] ⟨qi_stable, qi_stable, qi_stable, qi_stable, qi_stable, qi_stable, qi_stable, qi_stable, qi_stable, qi_stable, trivial⟩ [3, 6, 9] ⟨?_, ?_, ?_, ?_, ?_, ?_, ?_, ?_, ?_, ?_, trivial⟩ ?_
  · exact stq (fun E => ex_move rfl (E.v oe0))
  · exact stq (fun E => ex_field rfl Try.underlying55 rfl (by kernel_rfl) (E.v oe3))
  · exact stq (fun E => ex_load1 rfl Try.underlying3 rfl (E.d 1) (Cs.lit1 (HB3.out.mod E.m (by intro h2; rcases h2 with ⟨h0, h2⟩ | h2 <;> first | omega | (have hb := HBR.out _ h2; omega))) rfl))
  · exact stepq_chain rfl
  · exact stq (fun E => ex_field rfl Try.underlying55 rfl (by kernel_rfl) (E.v oe3))
  · exact stq (fun E => ex_load1 rfl Try.underlying3 rfl (E.d 4) (Cs.lit1 (HB3.out.mod E.m (by intro h2; rcases h2 with ⟨h0, h2⟩ | h2 <;> first | omega | (have hb := HBR.out _ h2; omega))) rfl))
  · exact stepq_chain rfl
  · exact stq (fun E => ex_field rfl Try.underlying55 rfl (by kernel_rfl) (E.v oe3))
  · exact stq (fun E => ex_load1 rfl Try.underlying26 rfl (E.d 7) (Cs.lit1 (HB3.out.mod E.m (by intro h2; rcases h2 with ⟨h0, h2⟩ | h2 <;> first | omega | (have hb := HBR.out _ h2; omega))) rfl))
  · exact stepq_chain rfl
  intro u1_0 hr
  have zu1_0 := hr.size
  have Cx3 := hid (hr.new (S := (fun k => (R k))))
  have Hx4 := hid (Hx1.out.mod hr (by intro k h1 h2; have hb := HBR.out k h1; omega))
  clear Hx1
  clear hr
  refine QChain.go fun Z act E => ?_
  refine qc_callF (args := #[.pointer (some ⟨g, 0, none⟩), .int .i64 x.rp]) rfl (wanted_none rfl) rfl Try.func64 (args2 (E.d 0) (E.d 2)) (WInt_Q Hx4.out HOK.out.1 (by have := HL.out; simp only [List.length_append] at this ⊢; omega)) ?_
  rintro e u1_1a ⟨rfl, qwr, hm⟩
  have zu1_1a := hm.size
  refine ⟨_, rfl, hm.mono (by intro k hk h; first | omega | exact Or.inl ⟨(by have hb := HBR.out k h; omega), Or.inl ⟨rfl, h⟩⟩), (fun _ => rfl), ?_⟩
  intro u1_1 hr
  have zu1_1 := hr.size
  have Hx5 := hid ((qwr.widen (R' := (fun k => (R k) ∨ (New u1_0 u1_1a k))) (fun _ h => h) (Nat.le_refl _)).mod hr (by intro k h1 h2; rcases h1 with h1 | h1 <;> first | omega | (have hb := HBR.out k h1; omega)))
  have Cx6 := hid (Cx3.out.goM hm hr (fun _ _ h => h))
  clear Cx3 hm hr Z act E qwr Hx4
  refine QChain.go fun Z act E => ?_
  refine qc_callF (args := #[.pointer (some ⟨g, 0, none⟩), .int .i64 x.ep]) rfl (wanted_none rfl) rfl Try.func64 (args2 (E.d 3) (E.d 5)) (WInt_Q Hx5.out HOK.out.2.1 (by have := HL.out; simp only [List.length_append] at this ⊢; omega)) ?_
  rintro e u1_2a ⟨rfl, qwr, hm⟩
  have zu1_2a := hm.size
  refine ⟨_, rfl, hm.mono (by intro k hk h; rcases h with h | h <;> first | omega | exact Or.inl ⟨(by have hb := HBR.out k h; omega), Or.inr (Or.inl ⟨rfl, h⟩)⟩), (fun _ => rfl), ?_⟩
  intro u1_2 hr
  have zu1_2 := hr.size
  have Hx7 := hid ((qwr.widen (R' := (fun k => (R k) ∨ (New u1_0 u1_1a k) ∨ (New u1_1 u1_2a k))) (by intro k h1; simp only [or_assoc] at h1 ⊢; exact h1) (Nat.le_refl _)).mod hr (by intro k h1 h2; rcases h1 with h1 | h1 | h1 <;> first | omega | (have hb := HBR.out k h1; omega)))
  have Cx8 := hid (Cx6.out.goM hm hr (by intro k h0 h2; rcases h2 with h2 | h2 <;> first | omega | exact h2))
  clear Cx6 hm hr Z act E qwr Hx5
  refine QChain.go fun Z act E => ?_
  refine qc_callF (args := #[.pointer (some ⟨g, 0, none⟩), .int .u64 (x.fl : Nat)]) rfl (wanted_none rfl) rfl Try.func67 (args2 (E.d 6) (E.d 8)) (WNum_Q Hx7.out HOK.out.2.2.1 (by have := HL.out; simp only [List.length_append] at this ⊢; omega)) ?_
  rintro e u1_3a ⟨rfl, qwr, hm⟩
  have zu1_3a := hm.size
  refine ⟨_, rfl, hm.mono (by intro k hk h; rcases h with h | h | h <;> first | omega | exact Or.inl ⟨(by have hb := HBR.out k h; omega), Or.inr (Or.inr (⟨rfl, h⟩))⟩), (fun _ => rfl), ?_⟩
  intro u1_3 hr
  have zu1_3 := hr.size
  have Hx9 := hid ((qwr.widen (R' := (fun k => (R k) ∨ (New u1_0 u1_1a k) ∨ (New u1_1 u1_2a k) ∨ (New u1_2 u1_3a k))) (by intro k h1; simp only [or_assoc] at h1 ⊢; exact h1) (Nat.le_refl _)).mod hr (by intro k h1 h2; rcases h1 with h1 | h1 | h1 | h1 <;> first | omega | (have hb := HBR.out k h1; omega)))
  have Cx10 := hid (Cx8.out.goM hm hr (by intro k h0 h2; rcases h2 with h2 | h2 | h2 <;> first | omega | exact h2))
  clear Cx8 hm hr Z act E qwr Hx7
  refine QChain.nil fun vs hl hzz hrows hne => ?_
  obtain ⟨Z, hYZ, hZb, hV⟩ := hzz
  have f0 := fvi hV hl 0
  have f3 := fvi hV hl 3
  have f6 := fvi hV hl 6
  have f9 := fvi hV hl 9
  rw [show vs = [gw vs 0, gw vs 1, gw vs 2, gw vs 3, gw vs 4, gw vs 5, gw vs 6, gw vs 7, gw vs 8, gw vs 9] from (gw_eta hl).trans rfl]
  have ha0 := HA0.out
  subst ha0
  clear HA0 hV hYZ hZb hsz0 hrows hne oe0 oe3
  simp only [putAll, Act.put, List.setIfInBounds_toArray, List.set_cons_zero, List.set_cons_succ, f0, f3, f6, f9]
  clear hl f0 f3 f6 f9
  go_upto_region 2 with (fail)
  refine wp_region_U 22 [14, 15, 16, 17] [0, 1, 2, 3] (fun a0 HA0 => ?_)
  have oe0 := ev HA0 0 rfl
  have oe3 := ev HA0 3 rfl
  refine QSeq.pure rfl _ (fun E => ex_move rfl (E.v oe0)) ?_
  refine QSeq.pure rfl (.pointer (some ⟨w.heap.size, 3, none⟩)) (fun E => ex_field rfl Try.underlying55 rfl (by kernel_rfl) (E.v oe3)) ?_
  refine QSeq.pure rfl _ (fun E => ex_load1 rfl Try.underlying53 rfl (E.d 1 0) (Cs.lit1 (HB3.out.mod Cx10.out (by intro h2; first | omega | (have hb := HBR.out _ h2; omega))) rfl)) ?_
  refine QSeq.call rfl rfl Try.func105 (PutList_Ce _ _ _ _ _ _ _ Hx9.out (by intro k h1; rcases h1 with h1 | h1 | h1 | h1 <;> first | omega | (have hb := HBR.out k h1; omega)) (Hx2.out.mod Cx10.out (by intro k h1 h2; first | omega | (have hb := HBT.out k h1; omega) | (have hb := HBR.out k h2; omega) | exact HDJ.out k h1 h2 | exact HDJ.out k h2 h1 | (have hb := HBT.out k h1; have hb2 := HBR.out k h2; omega))) (by intro k h1; have hb := HBT.out k h1; omega) (by intro k h1 h2; rcases h1 with h1 | h1 | h1 | h1 <;> first | omega | (have hb := HBR.out k h1; omega) | (have hb := HBT.out k h2; omega) | exact HDJ.out k h1 h2 | exact HDJ.out k h2 h1 | (have hb := HBR.out k h1; have hb2 := HBT.out k h2; omega)) (by have := HL.out; simp only [List.length_append] at this ⊢; omega)) (fun E => args3 (E.d 0 2) (E.d 2 0) rfl) ?_
  rintro e u2_3 ⟨rfl, qwr, hm⟩
  refine ⟨_, rfl, ?_⟩
  have Hx11 := hid (qwr.widen (R' := (fun k => (R k) ∨ (New u1_0 u1_1a k) ∨ (New u1_1 u1_2a k) ∨ (New u1_2 u1_3a k) ∨ (New u1_3 u2_3 k))) (by intro k h1; simp only [or_assoc] at h1 ⊢; exact h1) (Nat.le_refl _))
  have zu2_3 := hm.size
  have Cx12 := hid (show Mod (fun k => (R k) ∨ (New u1_0 u1_1a k) ∨ (New u1_1 u1_2a k) ∨ (New u1_2 u1_3a k)) u1_3 u2_3 from hm)
  clear hm
  clear qwr Hx9
  refine QSeq.nil (t' := [_, _, _, _]) rfl ?_
  obtain rfl := HA0.out
  clear HA0 oe0 oe3
  simp only [pz, Act.put, List.setIfInBounds_toArray, List.set_cons_zero, List.set_cons_succ]
  go_upto_region 3 with (fail)
  refine wp_region_U 22 [18, 19, 20, 21] [0, 1, 2, 3] (fun a0 HA0 => ?_)
  have oe0 := ev HA0 0 rfl
  have oe3 := ev HA0 3 rfl
  refine QSeq.pure rfl _ (fun E => ex_move rfl (E.v oe0)) ?_
  refine QSeq.pure rfl (.pointer (some ⟨w.heap.size, 4, none⟩)) (fun E => ex_field rfl Try.underlying55 rfl (by kernel_rfl) (E.v oe3)) ?_
  refine QSeq.pure rfl _ (fun E => ex_loadA rfl Try.underlying28 rfl (off := 4) (cs := [.int .i64 x.sb, .int .i64 x.mr]) (by kernel_rfl) (E.d 1 0) (Cs.litA ((HB3.out.mod Cx10.out (by intro h2; first | omega | (have hb := HBR.out _ h2; omega))).mod Cx12.out (by intro h2; rcases h2 with h2 | h2 | h2 | h2 <;> first | omega | (have hb := HBR.out _ h2; omega))) rfl)) ?_
  refine QSeq.call rfl rfl Try.func142 (PutSig_Q Hx11.out (by intro k h1; rcases h1 with h1 | h1 | h1 | h1 | h1 <;> first | omega | (have hb := HBR.out k h1; omega)) HOK.out.2.2.2.1 HOK.out.2.2.2.2 (by have := HL.out; simp only [List.length_append] at this ⊢; omega)) (fun E => args2 (E.d 0 2) (E.d 2 0)) ?_
  rintro e u3_3 ⟨rfl, qwr, hm⟩
  refine ⟨_, rfl, ?_⟩
  have Hx13 := hid (qwr.widen (R' := (fun k => (R k) ∨ (New u1_0 u1_1a k) ∨ (New u1_1 u1_2a k) ∨ (New u1_2 u1_3a k) ∨ (New u1_3 u2_3 k) ∨ (New u2_3 u3_3 k))) (by intro k h1; simp only [or_assoc] at h1 ⊢; exact h1) (Nat.le_refl _))
  have zu3_3 := hm.size
  have Cx14 := hid (show Mod (fun k => (R k) ∨ (New u1_0 u1_1a k) ∨ (New u1_1 u1_2a k) ∨ (New u1_2 u1_3a k) ∨ (New u1_3 u2_3 k)) u2_3 u3_3 from hm)
  clear hm
  clear qwr Hx11
  refine QSeq.nil (t' := [_, _, _, _]) rfl ?_
  obtain rfl := HA0.out
  clear HA0 oe0 oe3
  simp only [pz, Act.put, List.setIfInBounds_toArray, List.set_cons_zero, List.set_cons_succ]
  go_wp2
  go_end0
  have hq := (Hx13.out.widen (R' := (fun k => R k ∨ New w u3_3 k)) (by intro k h1; rcases h1 with h1 | h1 | h1 | h1 | h1 | h1 <;> first | exact Or.inl h1 | (right; omega)) (Nat.le_refl _))
  simp only [List.append_assoc] at hq
  exact ⟨rfl, by simpa only [pmB, List.append_assoc] using hq, (((HM0.out.trans Cx10.out (fun _ _ h => h)).trans Cx12.out (by intro k h1 h2; rcases h2 with h2 | h2 | h2 | h2 <;> first | exact h2 | omega | (have hb := HBR.out k h2; omega))).trans Cx14.out (by intro k h1 h2; rcases h2 with h2 | h2 | h2 | h2 | h2 <;> first | exact h2 | omega | (have hb := HBR.out k h2; omega)))⟩
set_option maxHeartbeats 4000000 in
theorem PutList_Pm : PutsL PmR 130 99 pmB := by
  intro R R2 g bs v l w hW hB hs hB2 hD hl
  obtain ⟨ao, cap, rfl⟩ := hs.shape
  have hb64 : l.length ≤ maxLen := hs.bd
  rw [maxLen_val] at hb64
  have HI64 := hid (show I64 (l.length : Int) by unfold I64; omega)
  have HW := Lib.hid hW
  have HS := Lib.hid hs
  have HBR := Lib.hid hB
  have HBT := Lib.hid hB2
  have HDJ := Lib.hid hD
  have HL := Lib.hid hl
  clear hW hB hs hB2 hD hl
  unfold listB at HL
  go_enter Try.func130, Try.ntmps130
  go_upto_region 0 with (fail)
  have HM0 := hid (Mod.refl (fun k => (R k)) w)
  go_upto_region 0 with (fail)
  refine wp_region_U 23 [8, 9, 10, 11] [0, 1, 2, 3] (fun a0 HA0 => ?_)
  have oe0 := ev HA0 0 rfl
  have oe1 := ev HA0 1 rfl
  refine QSeq.pure rfl _ (fun E => ex_move rfl (E.v oe0)) ?_
  refine QSeq.pure rfl _ (fun E => ex_move rfl (E.v oe1)) ?_
  refine QSeq.pure rfl (.int .i64 l.length) (fun E => ex_lenS rfl (E.d 1 0) Try.underlying56) ?_
  refine QSeq.call rfl rfl Try.func64 (WInt_Q HW.out HI64.out (by have := HL.out; simp only [List.length_append] at this ⊢; omega)) (fun E => args2 (E.d 0 2) (E.d 2 0)) ?_
  rintro e u0_3 ⟨rfl, qwr, hm⟩
  refine ⟨_, rfl, ?_⟩
  have Hx1 := hid (qwr.widen (R' := (fun k => (R k) ∨ (New w u0_3 k))) (fun _ h => h) (Nat.le_refl _))
  have zu0_3 := hm.size
  have Cx2 := hid (show Mod (fun k => (R k)) w u0_3 from hm)
  clear hm
  clear qwr HW
  refine QSeq.nil (t' := [_, _, _, _]) rfl ?_
  obtain rfl := HA0.out
  clear HA0 oe0 oe1
  simp only [pz, Act.put, List.setIfInBounds_toArray, List.set_cons_zero, List.set_cons_succ]
  go_wp2
  go_loopw [14] (fun t wr => ∃ k : Nat, t = .int .i64 (k : Int) ∧ k ≤ l.length ∧ u0_3.heap.size ≤ wr.heap.size ∧ WrR (fun b => R b ∨ (w.heap.size ≤ b ∧ b < wr.heap.size)) 900000 wr g (bs ++ (encI l.length ++ ((l.take k).map pmB).flatten)) ∧ RdS PmR R2 wr (.slice ao l.length cap) l ∧ Mod R w wr) (fun t _ => l.length - (intOf t).toNat)
  case atStart => exact ⟨0, rfl, Nat.zero_le _, Nat.le_refl _, by have hq := (Hx1.out.widen (R' := (fun k => R k ∨ (w.heap.size ≤ k ∧ k < u0_3.heap.size))) (by intro k h1; rcases h1 with h1 | h1 <;> first | exact Or.inl h1 | (right; omega)) (Nat.le_refl _)); simpa only [List.take_zero, List.map_nil, List.flatten_nil, List.append_nil] using hq, (HS.out.mod Cx2.out (by intro k h1 h2; first | omega | (have hb := HBT.out k h1; omega) | (have hb := HBR.out k h2; omega) | exact HDJ.out k h1 h2 | exact HDJ.out k h2 h1 | (have hb := HBT.out k h1; have hb2 := HBR.out k h2; omega))), (HM0.out.trans Cx2.out (fun _ _ h => h))⟩
  case round =>
    obtain ⟨k, rfl, hk, hz, hw, hs, hm⟩ := hrel
    have HW2 := Lib.hid hw
    have HS2 := Lib.hid hs
    have HM2 := Lib.hid hm
    clear hw hs hm Hx1 HS HM0
    obtain ⟨wo, rfl⟩ : ∃ x, x = wr := ⟨_, rfl⟩
    by_cases hlt : k < l.length
    · skip
      obtain ⟨g0, o0, cs, rfl, hrg, hrd, hcs⟩ := HS2.out.at hlt
      have hcl : cs.length = 6 := PmR.len hrd
      have HCL := Lib.hid hcl
      have HAT := hid (show CellsAt R2 wo g0 (o0 + k * 6) cs from ⟨hrg, hcs⟩)
      have HRD := Lib.hid hrd
      have HOC := hid (PmR.one hrd)
      clear hcl hcs hrd hrg
      have HE : Hid (bs ++ (encI l.length ++ ((l.take k).map pmB).flatten) ++ pmB l[k] = bs ++ (encI l.length ++ ((l.take (k + 1)).map pmB).flatten)) := hid (by rw [List.take_succ_eq_append_getElem hlt, List.map_append, List.flatten_append]; simp [List.append_assoc])
      have HLk := hid (show (bs ++ (encI l.length ++ ((l.take k).map pmB).flatten) ++ pmB l[k]).length ≤ 900000 by rw [HE.out]; exact Nat.le_trans (put_len _ _ _ _ _) HL.out)
      go_upto_region 3 with (fail)
      refine wp_region_U 23 [16, 17, 7, 26] [0, 1, 2, 3] (fun a0 HA0 => ?_)
      have oe12 := ev HA0 12 rfl
      have oe14 := ev HA0 14 rfl
      refine QSeq.pure rfl (.pointer (some ⟨g0, o0 + k * 6, none⟩)) (fun E => ex_idxS (i := k) (s := 6) rfl Try.underlying56 (by kernel_rfl) (E.v oe12) (E.v oe14) (by omega)) ?_
      refine QSeq.pure rfl _ (fun E => ex_loadA rfl Try.underlying55 rfl (off := o0 + k * 6) (cs := cs) (by rw [HCL.out]; kernel_rfl) (E.d 0 0) (fun j u hu => (HAT.out).2 j u hu)) ?_
      refine QSeq.go fun act E => ?_
      refine qc_alloc rfl (wanted_none rfl) rfl (z := [.int .i64 0, .int .i64 0, .int .u64 0, .slice none 0 0, .int .i64 0, .int .i64 0]) (by kernel_rfl) ?_
      intro u3_2 qq hm
      have zl3_2 := qq.lt
      have Hx3 := hid qq
      have zu3_2 := hm.size
      have Cx4 := hid (show Mod (fun _ => False) wo u3_2 from hm)
      clear hm
      clear act E qq
      refine QSeq.go fun act E => ?_
      have hlz : (cs).length = List.length ([.int .i64 0, .int .i64 0, .int .u64 0, .slice none 0 0, .int .i64 0, .int .i64 0] : List Value) := (by rw [HCL.out]; rfl)
      refine qc_store rfl (wanted_none rfl) rfl Hx3.out (off := 0) (vs := cs) (by rw [hlz]; kernel_rfl) HOC.out (by rw [hlz]; exact Nat.le_of_eq (Nat.zero_add _)) (E.d 2 0) (ec (E.d 1 1)) ?_
      intro u3_3 qc0 hm
      have qq := qc0.eqv (b := (cs : List Value).toArray) (lay_whole #[.int .i64 0, .int .i64 0, .int .u64 0, .slice none 0 0, .int .i64 0, .int .i64 0] _ (by rw [hlz]; rfl))
      clear qc0 hlz
      have Hx5 := hid qq
      have zu3_3 := hm.size
      have HMu3_3 := hid hm
      have Cx6 := hid (Mod.goS (S' := (fun _ => False)) Cx4.out hm (fun _ h => h) (by intro k h0 h2; omega))
      clear hm Cx4
      clear act E qq Hx3
      clear HMu3_3
      refine QSeq.nil (t' := [_, _, _, _]) rfl ?_
      obtain rfl := HA0.out
      clear HA0 oe12 oe14
      simp only [pz, Act.put, List.setIfInBounds_toArray, List.set_cons_zero, List.set_cons_succ, List.set_nil]
      go_upto_region 4 with (fail)
      refine wp_region_U 23 [18, 19, 20, 21] [0, 1, 2, 3] (fun a0 HA0 => ?_)
      have oe0 := ev HA0 0 rfl
      have oe2 := ev HA0 2 rfl
      have oe7 := ev HA0 7 rfl
      refine QSeq.pure rfl _ (fun E => ex_move rfl (E.v oe2)) ?_
      refine QSeq.pure rfl _ (fun E => ex_move rfl (E.v oe0)) ?_
      refine QSeq.pure rfl _ (fun E => ex_loadA rfl Try.underlying55 rfl (off := 0) (cs := cs) (by rw [HCL.out]; kernel_rfl) (E.v oe7) (Cs.whole Hx5.out)) ?_
      refine QSeq.go fun act E => ?_
      have ea19 : act.eval (.tmp 19) = .pointer (some ⟨g, 0, none⟩) := (E.d 1 1)
      have ea20 : act.eval (.tmp 20) = .agg cs.toArray := (E.d 2 0)
      refine qc_call (args := #[.pointer (some ⟨g, 0, none⟩), .agg cs.toArray]) rfl (wanted_none rfl) (by rw [ex_callV rfl (E.d 0 2) Try.func99 (by kernel_rfl) (by kernel_rfl)]; exact congrArg (fun z => Result.ok (Next.enter _ z) _) (by simp only [List.map_toArray, List.map_cons, List.map_nil, ea19, ea20]; try rfl)) (PutPm_Q _ _ _ _ _ _ _ (HW2.out.mod Cx6.out (fun _ _ h => h)) (by intro k h1; rcases h1 with h1 | h1 <;> first | omega | (have hb := HBR.out k h1; omega)) (HRD.out.mod Cx6.out (fun _ _ h => h)) (by intro k h1; have hb := HBT.out k h1; omega) (by intro k h1 h2; rcases h1 with h1 | h1 <;> first | omega | (have hb := HBR.out k h1; omega) | (have hb := HBT.out k h2; omega) | exact HDJ.out k h1 h2 | exact HDJ.out k h2 h1 | (have hb := HBR.out k h1; have hb2 := HBT.out k h2; omega)) HLk.out) ?_
      rintro e u4_3 ⟨rfl, qwr, hm⟩
      refine ⟨_, rfl, ?_⟩
      have Hx7 := hid (qwr.widen (R' := (fun k => (R k) ∨ (New w wo k) ∨ (New u3_3 u4_3 k))) (by intro k h1; simp only [or_assoc] at h1 ⊢; exact h1) (Nat.le_refl _))
      have zu4_3 := hm.size
      have Cx8 := hid (show Mod (fun k => (R k) ∨ (New w wo k)) u3_3 u4_3 from hm)
      clear hm
      clear act E qwr HW2 ea19 ea20
      refine QSeq.nil (t' := [_, _, _, _]) rfl ?_
      obtain rfl := HA0.out
      clear HA0 oe0 oe2 oe7
      simp only [pz, Act.put, List.setIfInBounds_toArray, List.set_cons_zero, List.set_cons_succ]
      have hq := Hx7.out
      rw [HE.out] at hq
      have HQ := Lib.hid hq
      clear hq
      go_wp2
      go_roundw
      case rel => exact ⟨k + 1, by go_num, by omega, by omega, (HQ.out.widen (by intro b h1; rcases h1 with h1 | h1 | h1 <;> first | exact Or.inl h1 | (right; omega)) (Nat.le_refl _)), ((HS2.out.mod Cx6.out (fun _ _ h => h)).mod Cx8.out (by intro k h1 h2; rcases h2 with h2 | h2 <;> first | omega | (have hb := HBT.out k h1; omega) | (have hb := HBR.out k h2; omega) | exact HDJ.out k h1 h2 | exact HDJ.out k h2 h1 | (have hb := HBT.out k h1; have hb2 := HBR.out k h2; omega))), ((HM2.out.trans Cx6.out (fun _ _ h => h.elim)).trans Cx8.out (by intro k h1 h2; rcases h2 with h2 | h2 <;> first | exact h2 | omega | (have hb := HBR.out k h2; omega)))⟩
      case measure => simp [intOf]; omega
    · have hkk : k = l.length := by omega
      subst hkk
      go_wp2
      go_end0
      have hq := HW2.out
      rw [List.take_length] at hq
      exact ⟨rfl, hq, HM2.out⟩
set_option maxHeartbeats 4000000 in
theorem PutBa_Q : Puts BaR 95 baB := by
  intro R R2 g bs cs x w hW hB hx hB2 hD hl
  obtain ⟨v_ps, v_os, v_ts, rfl, hok, hs0, hs1, hs2⟩ := hx
  have HS0 := Lib.hid hs0
  clear hs0
  have HS1 := Lib.hid hs1
  clear hs1
  have HS2 := Lib.hid hs2
  clear hs2
  have HW := Lib.hid hW
  have HBR := Lib.hid hB
  have HBT := Lib.hid hB2
  have HDJ := Lib.hid hD
  have HOK := Lib.hid hok
  have HL := Lib.hid hl
  clear hW hB hB2 hD hl hok
  unfold baB at HL
  go_enter Try.func95, Try.ntmps95
  go_upto_region 1 with (fail)
  obtain ⟨w1, hw1⟩ : ∃ zz, zz = (w.alloc (.cells (x.cells v_ps v_os v_ts : List Value).toArray 60)) := ⟨_, rfl⟩
  change Code.wp _ _ _ _ (w.alloc (.cells (x.cells v_ps v_os v_ts : List Value).toArray 60))
  rw [← hw1]
  have HB3 := hid (show Cs w1 (w.heap.size) (x.cells v_ps v_os v_ts : List Value).toArray 60 by rw [hw1]; exact Cs.new _ _ _)
  have hm : Mod (fun _ => False) w w1 := by rw [hw1]; exact (Mod.refl _ _).alloc _
  have HM0 := hid (show Mod (fun k => (R k)) w w1 from hm.mono (fun _ _ h => h.elim))
  have hs1 : w1.heap.size = w.heap.size + 1 := by rw [hw1]; simp
  have Hx1 := hid (HW.out.mod hm (fun _ _ h => h))
  clear HW
  have Hx2 := hid (HS0.out.mod hm (fun _ _ h => h))
  clear HS0
  have Hx3 := hid (HS1.out.mod hm (fun _ _ h => h))
  clear HS1
  have Hx4 := hid (HS2.out.mod hm (fun _ _ h => h))
  clear HS2
  clear hw1 hm
  go_upto_region 1 with (fail)
  generalize ha0 : Act.mk _ _ = a0
  have oe0 : a0.eval (.tmp 0) = .pointer (some ⟨g, 0, none⟩) := by rw [← ha0]; rfl
  have oe3 : a0.eval (.tmp 3) = .pointer (some ⟨w.heap.size, 0, none⟩) := by rw [← ha0]; rfl
  have hsz0 : a0.tmps.size = 23 := by rw [← ha0]; rfl
  have HA0 := hid ha0
  clear ha0
  refine wp_region_Q1 23 hsz0 [4, 5, 6, 7, 8, 9, 10] (fun k => (R k)) (fun k j => (k = 0 ∧ ((R j))) ∨ (k = 1 ∧ ((R j)))) (by intro k j h; (try dsimp only at h ⊢); rcases h with ⟨-, h⟩ | ⟨-, h⟩; (exact h); (exact h)) [qi (.pointer (some ⟨g, 0, none⟩)), qi (.pointer (some ⟨w.heap.size, 0, none⟩)), qi (.int .i64 x.ep), qi (.pointer (some ⟨g, 0, none⟩)), qi (.pointer (some ⟨w.heap.size, 1, none⟩)), qi (.int .u64 (x.tm : Nat)), qi (.pointer (some ⟨g, 0, none⟩))] ⟨qi_stable, qi_stable, qi_stable, qi_stable, qi_stable, qi_stable, qi_stable, trivial⟩ [3, 6] ⟨?_, ?_, ?_, ?_, ?_, ?_, ?_, trivial⟩ ?_
  · exact stq (fun E => ex_move rfl (E.v oe0))
  · exact stq (fun E => ex_field rfl Try.underlying60 rfl (by kernel_rfl) (E.v oe3))
  · exact stq (fun E => ex_load1 rfl Try.underlying3 rfl (E.d 1) (Cs.lit1 (HB3.out.mod E.m (by intro h2; rcases h2 with ⟨h0, h2⟩ | h2 <;> first | omega | (have hb := HBR.out _ h2; omega))) rfl))
  · exact stepq_chain rfl
  · exact stq (fun E => ex_field rfl Try.underlying60 rfl (by kernel_rfl) (E.v oe3))
  · exact stq (fun E => ex_load1 rfl Try.underlying26 rfl (E.d 4) (Cs.lit1 (HB3.out.mod E.m (by intro h2; rcases h2 with ⟨h0, h2⟩ | h2 <;> first | omega | (have hb := HBR.out _ h2; omega))) rfl))
  · exact stepq_chain rfl
  intro u1_0 hr
  have zu1_0 := hr.size
  have Cx5 := hid (hr.new (S := (fun k => (R k))))
  have Hx6 := hid (Hx1.out.mod hr (by intro k h1 h2; have hb := HBR.out k h1; omega))
  clear Hx1
  clear hr
  refine QChain.go fun Z act E => ?_
  refine qc_callF (args := #[.pointer (some ⟨g, 0, none⟩), .int .i64 x.ep]) rfl (wanted_none rfl) rfl Try.func64 (args2 (E.d 0) (E.d 2)) (WInt_Q Hx6.out HOK.out.1 (by have := HL.out; simp only [List.length_append] at this ⊢; omega)) ?_
  rintro e u1_1a ⟨rfl, qwr, hm⟩
  have zu1_1a := hm.size
  refine ⟨_, rfl, hm.mono (by intro k hk h; first | omega | exact Or.inl ⟨(by have hb := HBR.out k h; omega), Or.inl ⟨rfl, h⟩⟩), (fun _ => rfl), ?_⟩
  intro u1_1 hr
  have zu1_1 := hr.size
  have Hx7 := hid ((qwr.widen (R' := (fun k => (R k) ∨ (New u1_0 u1_1a k))) (fun _ h => h) (Nat.le_refl _)).mod hr (by intro k h1 h2; rcases h1 with h1 | h1 <;> first | omega | (have hb := HBR.out k h1; omega)))
  have Cx8 := hid (Cx5.out.goM hm hr (fun _ _ h => h))
  clear Cx5 hm hr Z act E qwr Hx6
  refine QChain.go fun Z act E => ?_
  refine qc_callF (args := #[.pointer (some ⟨g, 0, none⟩), .int .u64 (x.tm : Nat)]) rfl (wanted_none rfl) rfl Try.func67 (args2 (E.d 3) (E.d 5)) (WNum_Q Hx7.out HOK.out.2 (by have := HL.out; simp only [List.length_append] at this ⊢; omega)) ?_
  rintro e u1_2a ⟨rfl, qwr, hm⟩
  have zu1_2a := hm.size
  refine ⟨_, rfl, hm.mono (by intro k hk h; rcases h with h | h <;> first | omega | exact Or.inl ⟨(by have hb := HBR.out k h; omega), Or.inr (⟨rfl, h⟩)⟩), (fun _ => rfl), ?_⟩
  intro u1_2 hr
  have zu1_2 := hr.size
  have Hx9 := hid ((qwr.widen (R' := (fun k => (R k) ∨ (New u1_0 u1_1a k) ∨ (New u1_1 u1_2a k))) (by intro k h1; simp only [or_assoc] at h1 ⊢; exact h1) (Nat.le_refl _)).mod hr (by intro k h1 h2; rcases h1 with h1 | h1 | h1 <;> first | omega | (have hb := HBR.out k h1; omega)))
  have Cx10 := hid (Cx8.out.goM hm hr (by intro k h0 h2; rcases h2 with h2 | h2 <;> first | omega | exact h2))
  clear Cx8 hm hr Z act E qwr Hx7
  refine QChain.nil fun vs hl hzz hrows hne => ?_
  obtain ⟨Z, hYZ, hZb, hV⟩ := hzz
  have f0 := fvi hV hl 0
  have f3 := fvi hV hl 3
  have f6 := fvi hV hl 6
  rw [show vs = [gw vs 0, gw vs 1, gw vs 2, gw vs 3, gw vs 4, gw vs 5, gw vs 6] from (gw_eta hl).trans rfl]
  have ha0 := HA0.out
  subst ha0
  clear HA0 hV hYZ hZb hsz0 hrows hne oe0 oe3
  simp only [putAll, Act.put, List.setIfInBounds_toArray, List.set_cons_zero, List.set_cons_succ, f0, f3, f6]
  clear hl f0 f3 f6
  go_upto_region 2 with (fail)
  refine wp_region_U 23 [11, 12, 13, 14] [0, 1, 2, 3] (fun a0 HA0 => ?_)
  have oe0 := ev HA0 0 rfl
  have oe3 := ev HA0 3 rfl
  refine QSeq.pure rfl _ (fun E => ex_move rfl (E.v oe0)) ?_
  refine QSeq.pure rfl (.pointer (some ⟨w.heap.size, 2, none⟩)) (fun E => ex_field rfl Try.underlying60 rfl (by kernel_rfl) (E.v oe3)) ?_
  refine QSeq.pure rfl _ (fun E => ex_load1 rfl Try.underlying56 rfl (E.d 1 0) (Cs.lit1 (HB3.out.mod Cx10.out (by intro h2; first | omega | (have hb := HBR.out _ h2; omega))) rfl)) ?_
  refine QSeq.call rfl rfl Try.func130 (PutList_Pm _ _ _ _ _ _ _ Hx9.out (by intro k h1; rcases h1 with h1 | h1 | h1 <;> first | omega | (have hb := HBR.out k h1; omega)) (Hx2.out.mod Cx10.out (by intro k h1 h2; first | omega | (have hb := HBT.out k h1; omega) | (have hb := HBR.out k h2; omega) | exact HDJ.out k h1 h2 | exact HDJ.out k h2 h1 | (have hb := HBT.out k h1; have hb2 := HBR.out k h2; omega))) (by intro k h1; have hb := HBT.out k h1; omega) (by intro k h1 h2; rcases h1 with h1 | h1 | h1 <;> first | omega | (have hb := HBR.out k h1; omega) | (have hb := HBT.out k h2; omega) | exact HDJ.out k h1 h2 | exact HDJ.out k h2 h1 | (have hb := HBR.out k h1; have hb2 := HBT.out k h2; omega)) (by have := HL.out; simp only [List.length_append] at this ⊢; omega)) (fun E => args3 (E.d 0 2) (E.d 2 0) rfl) ?_
  rintro e u2_3 ⟨rfl, qwr, hm⟩
  refine ⟨_, rfl, ?_⟩
  have Hx11 := hid (qwr.widen (R' := (fun k => (R k) ∨ (New u1_0 u1_1a k) ∨ (New u1_1 u1_2a k) ∨ (New u1_2 u2_3 k))) (by intro k h1; simp only [or_assoc] at h1 ⊢; exact h1) (Nat.le_refl _))
  have zu2_3 := hm.size
  have Cx12 := hid (show Mod (fun k => (R k) ∨ (New u1_0 u1_1a k) ∨ (New u1_1 u1_2a k)) u1_2 u2_3 from hm)
  clear hm
  clear qwr Hx9
  refine QSeq.nil (t' := [_, _, _, _]) rfl ?_
  obtain rfl := HA0.out
  clear HA0 oe0 oe3
  simp only [pz, Act.put, List.setIfInBounds_toArray, List.set_cons_zero, List.set_cons_succ]
  go_upto_region 3 with (fail)
  refine wp_region_U 23 [15, 16, 17, 18] [0, 1, 2, 3] (fun a0 HA0 => ?_)
  have oe0 := ev HA0 0 rfl
  have oe3 := ev HA0 3 rfl
  refine QSeq.pure rfl _ (fun E => ex_move rfl (E.v oe0)) ?_
  refine QSeq.pure rfl (.pointer (some ⟨w.heap.size, 3, none⟩)) (fun E => ex_field rfl Try.underlying60 rfl (by kernel_rfl) (E.v oe3)) ?_
  refine QSeq.pure rfl _ (fun E => ex_load1 rfl Try.underlying57 rfl (E.d 1 0) (Cs.lit1 ((HB3.out.mod Cx10.out (by intro h2; first | omega | (have hb := HBR.out _ h2; omega))).mod Cx12.out (by intro h2; rcases h2 with h2 | h2 | h2 <;> first | omega | (have hb := HBR.out _ h2; omega))) rfl)) ?_
  refine QSeq.call rfl rfl Try.func131 (PutList_Op _ _ _ _ _ _ _ Hx11.out (by intro k h1; rcases h1 with h1 | h1 | h1 | h1 <;> first | omega | (have hb := HBR.out k h1; omega)) ((Hx3.out.mod Cx10.out (by intro k h1 h2; first | omega | (have hb := HBT.out k h1; omega) | (have hb := HBR.out k h2; omega) | exact HDJ.out k h1 h2 | exact HDJ.out k h2 h1 | (have hb := HBT.out k h1; have hb2 := HBR.out k h2; omega))).mod Cx12.out (by intro k h1 h2; rcases h2 with h2 | h2 | h2 <;> first | omega | (have hb := HBT.out k h1; omega) | (have hb := HBR.out k h2; omega) | exact HDJ.out k h1 h2 | exact HDJ.out k h2 h1 | (have hb := HBT.out k h1; have hb2 := HBR.out k h2; omega))) (by intro k h1; have hb := HBT.out k h1; omega) (by intro k h1 h2; rcases h1 with h1 | h1 | h1 | h1 <;> first | omega | (have hb := HBR.out k h1; omega) | (have hb := HBT.out k h2; omega) | exact HDJ.out k h1 h2 | exact HDJ.out k h2 h1 | (have hb := HBR.out k h1; have hb2 := HBT.out k h2; omega)) (by have := HL.out; simp only [List.length_append] at this ⊢; omega)) (fun E => args3 (E.d 0 2) (E.d 2 0) rfl) ?_
  rintro e u3_3 ⟨rfl, qwr, hm⟩
  refine ⟨_, rfl, ?_⟩
  have Hx13 := hid (qwr.widen (R' := (fun k => (R k) ∨ (New u1_0 u1_1a k) ∨ (New u1_1 u1_2a k) ∨ (New u1_2 u2_3 k) ∨ (New u2_3 u3_3 k))) (by intro k h1; simp only [or_assoc] at h1 ⊢; exact h1) (Nat.le_refl _))
  have zu3_3 := hm.size
  have Cx14 := hid (show Mod (fun k => (R k) ∨ (New u1_0 u1_1a k) ∨ (New u1_1 u1_2a k) ∨ (New u1_2 u2_3 k)) u2_3 u3_3 from hm)
  clear hm
  clear qwr Hx11
  refine QSeq.nil (t' := [_, _, _, _]) rfl ?_
  obtain rfl := HA0.out
  clear HA0 oe0 oe3
  simp only [pz, Act.put, List.setIfInBounds_toArray, List.set_cons_zero, List.set_cons_succ]
  go_upto_region 4 with (fail)
  refine wp_region_U 23 [19, 20, 21, 22] [0, 1, 2, 3] (fun a0 HA0 => ?_)
  have oe0 := ev HA0 0 rfl
  have oe3 := ev HA0 3 rfl
  refine QSeq.pure rfl _ (fun E => ex_move rfl (E.v oe0)) ?_
  refine QSeq.pure rfl (.pointer (some ⟨w.heap.size, 4, none⟩)) (fun E => ex_field rfl Try.underlying60 rfl (by kernel_rfl) (E.v oe3)) ?_
  refine QSeq.pure rfl _ (fun E => ex_load1 rfl Try.underlying58 rfl (E.d 1 0) (Cs.lit1 (((HB3.out.mod Cx10.out (by intro h2; first | omega | (have hb := HBR.out _ h2; omega))).mod Cx12.out (by intro h2; rcases h2 with h2 | h2 | h2 <;> first | omega | (have hb := HBR.out _ h2; omega))).mod Cx14.out (by intro h2; rcases h2 with h2 | h2 | h2 | h2 <;> first | omega | (have hb := HBR.out _ h2; omega))) rfl)) ?_
  refine QSeq.call rfl rfl Try.func133 (PutList_Tb _ _ _ _ _ _ _ Hx13.out (by intro k h1; rcases h1 with h1 | h1 | h1 | h1 | h1 <;> first | omega | (have hb := HBR.out k h1; omega)) (((Hx4.out.mod Cx10.out (by intro k h1 h2; first | omega | (have hb := HBT.out k h1; omega) | (have hb := HBR.out k h2; omega) | exact HDJ.out k h1 h2 | exact HDJ.out k h2 h1 | (have hb := HBT.out k h1; have hb2 := HBR.out k h2; omega))).mod Cx12.out (by intro k h1 h2; rcases h2 with h2 | h2 | h2 <;> first | omega | (have hb := HBT.out k h1; omega) | (have hb := HBR.out k h2; omega) | exact HDJ.out k h1 h2 | exact HDJ.out k h2 h1 | (have hb := HBT.out k h1; have hb2 := HBR.out k h2; omega))).mod Cx14.out (by intro k h1 h2; rcases h2 with h2 | h2 | h2 | h2 <;> first | omega | (have hb := HBT.out k h1; omega) | (have hb := HBR.out k h2; omega) | exact HDJ.out k h1 h2 | exact HDJ.out k h2 h1 | (have hb := HBT.out k h1; have hb2 := HBR.out k h2; omega))) (by intro k h1; have hb := HBT.out k h1; omega) (by intro k h1 h2; rcases h1 with h1 | h1 | h1 | h1 | h1 <;> first | omega | (have hb := HBR.out k h1; omega) | (have hb := HBT.out k h2; omega) | exact HDJ.out k h1 h2 | exact HDJ.out k h2 h1 | (have hb := HBR.out k h1; have hb2 := HBT.out k h2; omega)) (by have := HL.out; simp only [List.length_append] at this ⊢; omega)) (fun E => args3 (E.d 0 2) (E.d 2 0) rfl) ?_
  rintro e u4_3 ⟨rfl, qwr, hm⟩
  refine ⟨_, rfl, ?_⟩
  have Hx15 := hid (qwr.widen (R' := (fun k => (R k) ∨ (New u1_0 u1_1a k) ∨ (New u1_1 u1_2a k) ∨ (New u1_2 u2_3 k) ∨ (New u2_3 u3_3 k) ∨ (New u3_3 u4_3 k))) (by intro k h1; simp only [or_assoc] at h1 ⊢; exact h1) (Nat.le_refl _))
  have zu4_3 := hm.size
  have Cx16 := hid (show Mod (fun k => (R k) ∨ (New u1_0 u1_1a k) ∨ (New u1_1 u1_2a k) ∨ (New u1_2 u2_3 k) ∨ (New u2_3 u3_3 k)) u3_3 u4_3 from hm)
  clear hm
  clear qwr Hx13
  refine QSeq.nil (t' := [_, _, _, _]) rfl ?_
  obtain rfl := HA0.out
  clear HA0 oe0 oe3
  simp only [pz, Act.put, List.setIfInBounds_toArray, List.set_cons_zero, List.set_cons_succ]
  go_wp2
  go_end0
  have hq := (Hx15.out.widen (R' := (fun k => R k ∨ New w u4_3 k)) (by intro k h1; rcases h1 with h1 | h1 | h1 | h1 | h1 | h1 <;> first | exact Or.inl h1 | (right; omega)) (Nat.le_refl _))
  simp only [List.append_assoc] at hq
  exact ⟨rfl, by simpa only [baB, List.append_assoc] using hq, ((((HM0.out.trans Cx10.out (fun _ _ h => h)).trans Cx12.out (by intro k h1 h2; rcases h2 with h2 | h2 | h2 <;> first | exact h2 | omega | (have hb := HBR.out k h2; omega))).trans Cx14.out (by intro k h1 h2; rcases h2 with h2 | h2 | h2 | h2 <;> first | exact h2 | omega | (have hb := HBR.out k h2; omega))).trans Cx16.out (by intro k h1 h2; rcases h2 with h2 | h2 | h2 | h2 | h2 <;> first | exact h2 | omega | (have hb := HBR.out k h2; omega)))⟩
end Go.Proofs.Ytknpapcfhnhheaa

/- Package wire: the texts that are signed, a batch's hash. -/
namespace Go.Proofs.Ytknpapcfhnhheaa
open Go Go.RowKit Go.Gv


def Hashes {α : Type} (A : Rep α) (F : FuncId) (f : α → List Int) : Prop := ∀ (R2 : Nat → Prop) (cs : List Value) (x : α) (w : World), A.rd R2 w cs x → (∀ k, R2 k → k < w.heap.size) → (f x).length ≤ 900000 →
  Calls Try.prog F #[.agg cs.toArray] w fun e w' => e = .returned (hv (shaF (f x))) ∧ Mod (fun _ => False) w w'
end Go.Proofs.Ytknpapcfhnhheaa

/- The reference's bytes of small things. -/
namespace Go.Proofs.Ytknpapcfhnhheaa
open Go Go.RowKit Go.Gv


theorem encI_len0 (n : Int) (h : I64 n) : (encI n).length ≤ 10 := (encI_len n h.2).2
end Go.Proofs.Ytknpapcfhnhheaa

/- The reference's bytes of certificates, promises, batches; its texts. -/
namespace Go.Proofs.Ytknpapcfhnhheaa
open Go Go.RowKit Go.Gv

end Go.Proofs.Ytknpapcfhnhheaa

/- The reference's bytes of promises and batches. -/
namespace Go.Proofs.Ytknpapcfhnhheaa
open Go Go.RowKit Go.Gv

end Go.Proofs.Ytknpapcfhnhheaa

/- gavellaw02.wakes; bytes.Compare; sha.Less. -/
namespace Go.Proofs.Ytknpapcfhnhheaa
open Go Go.RowKit Go.Gv

end Go.Proofs.Ytknpapcfhnhheaa

/- gavelref01.turn; gavelref01.Sum: the same plain sum. -/
namespace Go.Proofs.Ytknpapcfhnhheaa
open Go Go.RowKit Go.Gv

end Go.Proofs.Ytknpapcfhnhheaa

/- As XVal3; besides: a slot that an operation reads ahead of the one that writes it. No program here. -/
namespace Go.Gv
open Go Go.RowKit

section
variable {P : Program} {ops : Array Oper} {Q : Exit → Act → World → Prop}
end
end Go.Gv

/- gavelref01.Sum: the same plain sum. -/
namespace Go.Proofs.Ytknpapcfhnhheaa
open Go Go.RowKit Go.Gv

structure RefO (w0 : World) (gk gh : Nat) (h : List Int) (w : World) : Prop where
  k2 : Cs w w0.heap.size ((List.replicate 32 0).map bv).toArray 25
  kk : Ws 171 w gk K256
  kh : Ws 170 w gh h
  m : Mod (fun _ => False) w0 w
theorem RefO.mod {S : Nat → Prop} {w0 w w' : World} {gk gh : Nat} {h : List Int} (o : RefO w0 gk gh h w) (hm : Mod S w w') (h1 : ¬ S w0.heap.size) (h2 : ¬ S gk) (h3 : ¬ S gh) (h4 : ∀ k, k < w0.heap.size → ¬ S k) : RefO w0 gk gh h w' :=
  ⟨o.k2.mod hm h1, o.kk.mod hm h2, o.kh.mod hm h3, o.m.trans hm (fun k hk hs => h4 k hk hs)⟩
theorem RefO.still {w0 w w' : World} {gk gh : Nat} {h : List Int} (o : RefO w0 gk gh h w) (hm : Mod (fun _ => False) w w') : RefO w0 gk gh h w' := o.mod hm (fun h => h) (fun h => h) (fun h => h) (fun _ _ h => h)
end Go.Proofs.Ytknpapcfhnhheaa

/- The reference's hash of a batch, text of a proposal. -/
namespace Go.Proofs.Ytknpapcfhnhheaa
open Go Go.RowKit Go.Gv

end Go.Proofs.Ytknpapcfhnhheaa

/- How long bytes are; lists of values. -/
namespace Go.Proofs.Ytknpapcfhnhheaa
open Go Go.RowKit Go.Gv


theorem flatB_le {α : Type} (f : α → List Int) (N : Nat) : ∀ l : List α, (∀ a ∈ l, (f a).length ≤ N) → ((l.map f).flatten).length ≤ l.length * N
  | [], _ => by simp
  | a :: r, h => by
    have h1 := h a (by simp)
    have h2 := flatB_le f N r (fun b hb => h b (by simp [hb]))
    simp only [List.map_cons, List.flatten_cons, List.length_append, List.length_cons, Nat.add_mul]
    omega
theorem listB_len {α : Type} (f : α → List Int) {N M : Nat} {l : List α} (hl : l.length ≤ M) (hM : M ≤ 1000000) (h : ∀ a ∈ l, (f a).length ≤ N) : (listB f l).length ≤ 10 + M * N := by
  have h1 := flatB_le f N l h
  have h2 := encI_len0 (l.length : Int) (by unfold I64; omega)
  have h3 := Nat.mul_le_mul_right N hl
  simp only [listB, List.length_append]
  omega
end Go.Proofs.Ytknpapcfhnhheaa

/- Things that were cut and made not too great: within the reader's bounds, of few bytes. No walk here. -/
namespace Go.Proofs.Ytknpapcfhnhheaa
open Go Go.RowKit Go.Gv

section
variable {R : Nat → Prop} {w : World} {cs : List Value}
end
end Go.Proofs.Ytknpapcfhnhheaa
