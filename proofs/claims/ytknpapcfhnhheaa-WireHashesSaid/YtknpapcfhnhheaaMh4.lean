/- Texts that are built one behind the other: XPt1, XGp, XRead2, XRead3, XRead4, XRead5, XSeg, XGl, XNa, XNb, XNc. No condition. -/
import Derived.Test.YtknpapcfhnhheaaMh3
set_option maxRecDepth 100000
set_option linter.unusedVariables false
/- Small parts of messages, put as bytes. -/
namespace Go.Proofs.Ytknpapcfhnhheaa
open Go Go.RowKit Go.Gv


/-- a signature's bytes, a name's, those of a list of things, and so on -/
def sigB (a b : Int) : List Int := encI a ++ encI b
def nameB (a b : Int) : List Int := encI a ++ encI b
def listB {α : Type} (f : α → List Int) (l : List α) : List Int := encI l.length ++ (l.map f).flatten
def cmB (x : Cm) : List Int := nameB x.cl x.sq ++ (x.h ++ (encI x.ln ++ sigB x.sb x.mr))
def stB (x : St) : List Int := encI x.rp ++ (nameB x.cl x.sq ++ (x.h ++ (encN x.tm ++ sigB x.sb x.mr)))
def ceB (x : Ce) : List Int := cmB x.c ++ listB stB x.l
def pmB (x : Pm) : List Int := encI x.rp ++ (encI x.ep ++ (encN x.fl ++ (listB ceB x.l ++ sigB x.sb x.mr)))
def opB (x : Op) : List Int := encI x.ix ++ ((encN x.pl.length ++ x.pl) ++ x.nc)
def dnB (x : Dn) : List Int := encI x.rp ++ (encI x.ix ++ sigB x.sb x.mr)
def tbB (x : Tb) : List Int := encI x.ix ++ listB dnB x.l
def baB (x : Ba) : List Int := encI x.ep ++ (encN x.tm ++ (listB pmB x.ps ++ (listB opB x.os ++ listB tbB x.ts)))
theorem WInt_Q {R : Nat → Prop} {g : Nat} {n : Int} {bs : List Int} {w : World} (hW : WrR R 900000 w g bs) (hn : I64 n) (hl : (bs ++ encI n).length ≤ 900000) :
    Calls Try.prog 64 #[.pointer (some ⟨g, 0, none⟩), .int .i64 n] w fun e w' => e = .returned (.pointer (some ⟨g, 0, none⟩)) ∧ WrR (fun k => R k ∨ New w w' k) 900000 w' g (bs ++ encI n) ∧ Mod R w w' := by
  obtain ⟨v, h1, h2, h3, h4⟩ := hW
  exact (WInt_any g n v bs w h1 hn (by unfold Room; omega)).mono fun _ _ ⟨he, h⟩ => ⟨he, WrTo_R _ h2 h3 h hl⟩
theorem WNum_Q {R : Nat → Prop} {g : Nat} {n : Nat} {bs : List Int} {w : World} (hW : WrR R 900000 w g bs) (hn : n < U64) (hl : (bs ++ encN n).length ≤ 900000) :
    Calls Try.prog 67 #[.pointer (some ⟨g, 0, none⟩), .int .u64 n] w fun e w' => e = .returned (.pointer (some ⟨g, 0, none⟩)) ∧ WrR (fun k => R k ∨ New w w' k) 900000 w' g (bs ++ encN n) ∧ Mod R w w' := by
  obtain ⟨v, h1, h2, h3, h4⟩ := hW
  exact (Num_any g n v bs w h1 hn (by unfold Room; omega)).mono fun _ _ ⟨he, h⟩ => ⟨he, WrTo_R _ h2 h3 h hl⟩
theorem WHash_Q {R : Nat → Prop} {g : Nat} {h bs : List Int} {w : World} (hW : WrR R 900000 w g bs) (hh : HK h) (hl : (bs ++ h).length ≤ 900000) :
    Calls Try.prog 66 #[.pointer (some ⟨g, 0, none⟩), hv h] w fun e w' => e = .returned (.pointer (some ⟨g, 0, none⟩)) ∧ WrR (fun k => R k ∨ New w w' k) 900000 w' g (bs ++ h) ∧ Mod R w w' := by
  obtain ⟨v, h1, h2, h3, h4⟩ := hW
  exact (WHash_any g v bs h w h1 hh.1 hh.2 (by unfold Room; omega)).mono fun _ _ ⟨he, h⟩ => ⟨he, WrTo_R _ h2 h3 h hl⟩
theorem WRow_Q {R R' : Nat → Prop} {M g : Nat} {bs : List Int} {v2 : Value} {cs : List Int} {w : World} (hW : WrR R 900000 w g bs) (hr : RdR R' M w v2 cs) (hs : ∀ k, R' k → R k → False) (hl : (bs ++ (encN cs.length ++ cs)).length ≤ 900000) :
    Calls Try.prog 107 #[.pointer (some ⟨g, 0, none⟩), v2] w fun e w' => e = .returned (.pointer (some ⟨g, 0, none⟩)) ∧ WrR (fun k => R k ∨ New w w' k) 900000 w' g (bs ++ (encN cs.length ++ cs)) ∧ Mod R w w' := by
  obtain ⟨v, h1, h2, h3, h4⟩ := hW
  obtain ⟨ao, cap, rfl⟩ := hr.shape
  have hlc : cs.length ≤ 900000 := by simp only [List.length_append] at hl; omega
  refine (WRow_any g v bs ao cap cs w h1 hr.1 ?_ (by unfold Room; omega)).mono fun _ _ ⟨he, h⟩ => ⟨he, WrTo_R _ h2 h3 h hl⟩
  intro h0 k hg hk
  rcases hk with rfl | hk
  · exact hs _ (hr.2.1 h0 _ hg) h2
  · exact hs _ (hr.2.1 h0 _ hg) (h3 k hk.symm)
/-- a function that puts things of a kind -/
def Puts {α : Type} (A : Rep α) (F : FuncId) (f : α → List Int) : Prop := ∀ (R R2 : Nat → Prop) (g : Nat) (bs : List Int) (cs : List Value) (x : α) (w : World), WrR R 900000 w g bs → (∀ k, R k → k < w.heap.size) → A.rd R2 w cs x → (∀ k, R2 k → k < w.heap.size) → (∀ k, R k → R2 k → False) → (bs ++ f x).length ≤ 900000 →
  Calls Try.prog F #[.pointer (some ⟨g, 0, none⟩), .agg cs.toArray] w fun e w' => e = .returned (.tuple #[]) ∧ WrR (fun k => R k ∨ New w w' k) 900000 w' g (bs ++ f x) ∧ Mod R w w'
/-- one that puts lists of them -/
def PutsL {α : Type} (A : Rep α) (F Fe : FuncId) (f : α → List Int) : Prop := ∀ (R R2 : Nat → Prop) (g : Nat) (bs : List Int) (v : Value) (l : List α) (w : World), WrR R 900000 w g bs → (∀ k, R k → k < w.heap.size) → RdS A R2 w v l → (∀ k, R2 k → k < w.heap.size) → (∀ k, R k → R2 k → False) → (bs ++ listB f l).length ≤ 900000 →
  Calls Try.prog F #[.pointer (some ⟨g, 0, none⟩), v, .func (.func Fe) #[] #[]] w fun e w' => e = .returned (.tuple #[]) ∧ WrR (fun k => R k ∨ New w w' k) 900000 w' g (bs ++ listB f l) ∧ Mod R w w'
theorem put_len {α : Type} (f : α → List Int) (bs : List Int) (n : List Int) (l : List α) (k : Nat) : (bs ++ (n ++ ((l.take k).map f).flatten)).length ≤ (bs ++ (n ++ (l.map f).flatten)).length := by
  have h : (l.map f).flatten = ((l.take k).map f).flatten ++ ((l.drop k).map f).flatten := by rw [← List.flatten_append, ← List.map_append, List.take_append_drop]
  rw [h]
  simp only [List.length_append]
  omega
set_option maxHeartbeats 2000000 in
theorem PutSig_Q {R : Nat → Prop} {g : Nat} {bs : List Int} {a b : Int} {w : World} (hW : WrR R 900000 w g bs) (hB : ∀ k, R k → k < w.heap.size) (ha : I64 a) (hb : I64 b) (hl : (bs ++ sigB a b).length ≤ 900000) :
    Calls Try.prog 142 #[.pointer (some ⟨g, 0, none⟩), .agg #[.int .i64 a, .int .i64 b]] w fun e w' => e = .returned (.tuple #[]) ∧ WrR (fun k => R k ∨ New w w' k) 900000 w' g (bs ++ sigB a b) ∧ Mod R w w' := by
  have HW := Lib.hid hW
  have HBR := Lib.hid hB
  have HL := hid (show (bs ++ (encI a ++ encI b)).length ≤ 900000 from hl)
  have HA := Lib.hid ha
  have HB := Lib.hid hb
  clear hW hB hl ha hb
  change Calls _ _ #[.pointer (some ⟨g, 0, none⟩), .agg #[.int .i64 a, .int .i64 b]] _ _
  go_enter Try.func142, Try.ntmps142
  go_upto_region 1 with (fail)
  obtain ⟨w1, hw1⟩ : ∃ zz, zz = (w.alloc (.cells #[.int .i64 a, .int .i64 b] 28)) := ⟨_, rfl⟩
  change Code.wp _ _ _ _ (w.alloc (.cells #[.int .i64 a, .int .i64 b] 28))
  rw [← hw1]
  have HB3 := hid (show Cs w1 (w.heap.size) #[.int .i64 a, .int .i64 b] 28 by rw [hw1]; exact Cs.new _ _ _)
  have hm : Mod (fun _ => False) w w1 := by rw [hw1]; exact (Mod.refl _ _).alloc _
  have HM0 := hid (show Mod (fun k => (R k)) w w1 from hm.mono (fun _ _ h => h.elim))
  have hs1 : w1.heap.size = w.heap.size + 1 := by rw [hw1]; simp
  have Hx1 := hid (HW.out.mod hm (fun _ _ h => h))
  clear HW
  clear hw1 hm
  go_upto_region 1 with (fail)
  generalize ha0 : Act.mk _ _ = a0
  have oe0 : a0.eval (.tmp 0) = .pointer (some ⟨g, 0, none⟩) := by rw [← ha0]; rfl
  have oe3 : a0.eval (.tmp 3) = .pointer (some ⟨w.heap.size, 0, none⟩) := by rw [← ha0]; rfl
  have hsz0 : a0.tmps.size = 11 := by rw [← ha0]; rfl
  have HA0 := hid ha0
  clear ha0
  refine wp_region_Q1 11 hsz0 [4, 5, 6, 7, 8, 9, 10] (fun k => (R k)) (fun k j => (k = 0 ∧ ((R j))) ∨ (k = 1 ∧ ((R j)))) (by intro k j h; (try dsimp only at h ⊢); rcases h with ⟨-, h⟩ | ⟨-, h⟩; (exact h); (exact h)) [qi (.pointer (some ⟨g, 0, none⟩)), qi (.pointer (some ⟨w.heap.size, 0, none⟩)), qi (.int .i64 a), qi (.pointer (some ⟨g, 0, none⟩)), qi (.pointer (some ⟨w.heap.size, 1, none⟩)), qi (.int .i64 b), qi (.pointer (some ⟨g, 0, none⟩))] ⟨qi_stable, qi_stable, qi_stable, qi_stable, qi_stable, qi_stable, qi_stable, trivial⟩ [3, 6] ⟨?_, ?_, ?_, ?_, ?_, ?_, ?_, trivial⟩ ?_
  · exact stq (fun E => ex_move rfl (E.v oe0))
  · exact stq (fun E => ex_field rfl Try.underlying28 rfl (by kernel_rfl) (E.v oe3))
  · exact stq (fun E => ex_load1 rfl Try.underlying3 rfl (E.d 1) (Cs.lit1 (HB3.out.mod E.m (by intro h2; rcases h2 with ⟨h0, h2⟩ | h2 <;> first | omega | (have hb := HBR.out _ h2; omega))) rfl))
  · exact stepq_chain rfl
  · exact stq (fun E => ex_field rfl Try.underlying28 rfl (by kernel_rfl) (E.v oe3))
  · exact stq (fun E => ex_load1 rfl Try.underlying3 rfl (E.d 4) (Cs.lit1 (HB3.out.mod E.m (by intro h2; rcases h2 with ⟨h0, h2⟩ | h2 <;> first | omega | (have hb := HBR.out _ h2; omega))) rfl))
  · exact stepq_chain rfl
  intro u1_0 hr
  have zu1_0 := hr.size
  have Cx2 := hid (hr.new (S := (fun k => (R k))))
  have Hx3 := hid (Hx1.out.mod hr (by intro k h1 h2; have hb := HBR.out k h1; omega))
  clear Hx1
  clear hr
  refine QChain.go fun Z act E => ?_
  refine qc_callF (args := #[.pointer (some ⟨g, 0, none⟩), .int .i64 a]) rfl (wanted_none rfl) rfl Try.func64 (args2 (E.d 0) (E.d 2)) (WInt_Q Hx3.out HA.out (by have := HL.out; simp only [List.length_append] at this ⊢; omega)) ?_
  rintro e u1_1a ⟨rfl, qwr, hm⟩
  have zu1_1a := hm.size
  refine ⟨_, rfl, hm.mono (by intro k hk h; first | omega | exact Or.inl ⟨(by have hb := HBR.out k h; omega), Or.inl ⟨rfl, h⟩⟩), (fun _ => rfl), ?_⟩
  intro u1_1 hr
  have zu1_1 := hr.size
  have Hx4 := hid ((qwr.widen (R' := (fun k => (R k) ∨ (New u1_0 u1_1a k))) (fun _ h => h) (Nat.le_refl _)).mod hr (by intro k h1 h2; rcases h1 with h1 | h1 <;> first | omega | (have hb := HBR.out k h1; omega)))
  have Cx5 := hid (Cx2.out.goM hm hr (fun _ _ h => h))
  clear Cx2 hm hr Z act E qwr Hx3
  refine QChain.go fun Z act E => ?_
  refine qc_callF (args := #[.pointer (some ⟨g, 0, none⟩), .int .i64 b]) rfl (wanted_none rfl) rfl Try.func64 (args2 (E.d 3) (E.d 5)) (WInt_Q Hx4.out HB.out (by have := HL.out; simp only [List.length_append] at this ⊢; omega)) ?_
  rintro e u1_2a ⟨rfl, qwr, hm⟩
  have zu1_2a := hm.size
  refine ⟨_, rfl, hm.mono (by intro k hk h; rcases h with h | h <;> first | omega | exact Or.inl ⟨(by have hb := HBR.out k h; omega), Or.inr (⟨rfl, h⟩)⟩), (fun _ => rfl), ?_⟩
  intro u1_2 hr
  have zu1_2 := hr.size
  have Hx6 := hid ((qwr.widen (R' := (fun k => (R k) ∨ (New u1_0 u1_1a k) ∨ (New u1_1 u1_2a k))) (by intro k h1; simp only [or_assoc] at h1 ⊢; exact h1) (Nat.le_refl _)).mod hr (by intro k h1 h2; rcases h1 with h1 | h1 | h1 <;> first | omega | (have hb := HBR.out k h1; omega)))
  have Cx7 := hid (Cx5.out.goM hm hr (by intro k h0 h2; rcases h2 with h2 | h2 <;> first | omega | exact h2))
  clear Cx5 hm hr Z act E qwr Hx4
  refine QChain.nil fun vs hl hzz hrows hne => ?_
  obtain ⟨Z, hYZ, hZb, hV⟩ := hzz
  have f0 := fvi hV hl 0
  have f3 := fvi hV hl 3
  have f6 := fvi hV hl 6
  rw [show vs = [gw vs 0, gw vs 1, gw vs 2, gw vs 3, gw vs 4, gw vs 5, gw vs 6] from (gw_eta hl).trans rfl]
  have ha0 := HA0.out
  subst ha0
  clear HA0 hV hYZ hZb hsz0 hrows hne oe0 oe3
  simp only [putAll, Act.put, List.setIfInBounds_toArray, List.set_cons_zero, List.set_cons_succ, f0, f3, f6]
  clear hl f0 f3 f6
  go_wp2
  go_end0
  have hq := (Hx6.out.widen (R' := (fun k => R k ∨ New w u1_2 k)) (by intro k h1; rcases h1 with h1 | h1 | h1 <;> first | exact Or.inl h1 | (right; omega)) (Nat.le_refl _))
  simp only [List.append_assoc] at hq
  exact ⟨rfl, by simpa only [sigB, List.append_assoc] using hq, (HM0.out.trans Cx7.out (fun _ _ h => h))⟩
set_option maxHeartbeats 2000000 in
theorem PutName_Q {R : Nat → Prop} {g : Nat} {bs : List Int} {a b : Int} {w : World} (hW : WrR R 900000 w g bs) (hB : ∀ k, R k → k < w.heap.size) (ha : I64 a) (hb : I64 b) (hl : (bs ++ nameB a b).length ≤ 900000) :
    Calls Try.prog 65 #[.pointer (some ⟨g, 0, none⟩), .agg #[.int .i64 a, .int .i64 b]] w fun e w' => e = .returned (.tuple #[]) ∧ WrR (fun k => R k ∨ New w w' k) 900000 w' g (bs ++ nameB a b) ∧ Mod R w w' := by
  have HW := Lib.hid hW
  have HBR := Lib.hid hB
  have HL := hid (show (bs ++ (encI a ++ encI b)).length ≤ 900000 from hl)
  have HA := Lib.hid ha
  have HB := Lib.hid hb
  clear hW hB hl ha hb
  change Calls _ _ #[.pointer (some ⟨g, 0, none⟩), .agg #[.int .i64 a, .int .i64 b]] _ _
  go_enter Try.func65, Try.ntmps65
  go_upto_region 1 with (fail)
  obtain ⟨w1, hw1⟩ : ∃ zz, zz = (w.alloc (.cells #[.int .i64 a, .int .i64 b] 23)) := ⟨_, rfl⟩
  change Code.wp _ _ _ _ (w.alloc (.cells #[.int .i64 a, .int .i64 b] 23))
  rw [← hw1]
  have HB3 := hid (show Cs w1 (w.heap.size) #[.int .i64 a, .int .i64 b] 23 by rw [hw1]; exact Cs.new _ _ _)
  have hm : Mod (fun _ => False) w w1 := by rw [hw1]; exact (Mod.refl _ _).alloc _
  have HM0 := hid (show Mod (fun k => (R k)) w w1 from hm.mono (fun _ _ h => h.elim))
  have hs1 : w1.heap.size = w.heap.size + 1 := by rw [hw1]; simp
  have Hx1 := hid (HW.out.mod hm (fun _ _ h => h))
  clear HW
  clear hw1 hm
  go_upto_region 1 with (fail)
  generalize ha0 : Act.mk _ _ = a0
  have oe0 : a0.eval (.tmp 0) = .pointer (some ⟨g, 0, none⟩) := by rw [← ha0]; rfl
  have oe3 : a0.eval (.tmp 3) = .pointer (some ⟨w.heap.size, 0, none⟩) := by rw [← ha0]; rfl
  have hsz0 : a0.tmps.size = 11 := by rw [← ha0]; rfl
  have HA0 := hid ha0
  clear ha0
  refine wp_region_Q1 11 hsz0 [4, 5, 6, 7, 8, 9, 10] (fun k => (R k)) (fun k j => (k = 0 ∧ ((R j))) ∨ (k = 1 ∧ ((R j)))) (by intro k j h; (try dsimp only at h ⊢); rcases h with ⟨-, h⟩ | ⟨-, h⟩; (exact h); (exact h)) [qi (.pointer (some ⟨g, 0, none⟩)), qi (.pointer (some ⟨w.heap.size, 0, none⟩)), qi (.int .i64 a), qi (.pointer (some ⟨g, 0, none⟩)), qi (.pointer (some ⟨w.heap.size, 1, none⟩)), qi (.int .i64 b), qi (.pointer (some ⟨g, 0, none⟩))] ⟨qi_stable, qi_stable, qi_stable, qi_stable, qi_stable, qi_stable, qi_stable, trivial⟩ [3, 6] ⟨?_, ?_, ?_, ?_, ?_, ?_, ?_, trivial⟩ ?_
  · exact stq (fun E => ex_move rfl (E.v oe0))
  · exact stq (fun E => ex_field rfl Try.underlying23 rfl (by kernel_rfl) (E.v oe3))
  · exact stq (fun E => ex_load1 rfl Try.underlying3 rfl (E.d 1) (Cs.lit1 (HB3.out.mod E.m (by intro h2; rcases h2 with ⟨h0, h2⟩ | h2 <;> first | omega | (have hb := HBR.out _ h2; omega))) rfl))
  · exact stepq_chain rfl
  · exact stq (fun E => ex_field rfl Try.underlying23 rfl (by kernel_rfl) (E.v oe3))
  · exact stq (fun E => ex_load1 rfl Try.underlying3 rfl (E.d 4) (Cs.lit1 (HB3.out.mod E.m (by intro h2; rcases h2 with ⟨h0, h2⟩ | h2 <;> first | omega | (have hb := HBR.out _ h2; omega))) rfl))
  · exact stepq_chain rfl
  intro u1_0 hr
  have zu1_0 := hr.size
  have Cx2 := hid (hr.new (S := (fun k => (R k))))
  have Hx3 := hid (Hx1.out.mod hr (by intro k h1 h2; have hb := HBR.out k h1; omega))
  clear Hx1
  clear hr
  refine QChain.go fun Z act E => ?_
  refine qc_callF (args := #[.pointer (some ⟨g, 0, none⟩), .int .i64 a]) rfl (wanted_none rfl) rfl Try.func64 (args2 (E.d 0) (E.d 2)) (WInt_Q Hx3.out HA.out (by have := HL.out; simp only [List.length_append] at this ⊢; omega)) ?_
  rintro e u1_1a ⟨rfl, qwr, hm⟩
  have zu1_1a := hm.size
  refine ⟨_, rfl, hm.mono (by intro k hk h; first | omega | exact Or.inl ⟨(by have hb := HBR.out k h; omega), Or.inl ⟨rfl, h⟩⟩), (fun _ => rfl), ?_⟩
  intro u1_1 hr
  have zu1_1 := hr.size
  have Hx4 := hid ((qwr.widen (R' := (fun k => (R k) ∨ (New u1_0 u1_1a k))) (fun _ h => h) (Nat.le_refl _)).mod hr (by intro k h1 h2; rcases h1 with h1 | h1 <;> first | omega | (have hb := HBR.out k h1; omega)))
  have Cx5 := hid (Cx2.out.goM hm hr (fun _ _ h => h))
  clear Cx2 hm hr Z act E qwr Hx3
  refine QChain.go fun Z act E => ?_
  refine qc_callF (args := #[.pointer (some ⟨g, 0, none⟩), .int .i64 b]) rfl (wanted_none rfl) rfl Try.func64 (args2 (E.d 3) (E.d 5)) (WInt_Q Hx4.out HB.out (by have := HL.out; simp only [List.length_append] at this ⊢; omega)) ?_
  rintro e u1_2a ⟨rfl, qwr, hm⟩
  have zu1_2a := hm.size
  refine ⟨_, rfl, hm.mono (by intro k hk h; rcases h with h | h <;> first | omega | exact Or.inl ⟨(by have hb := HBR.out k h; omega), Or.inr (⟨rfl, h⟩)⟩), (fun _ => rfl), ?_⟩
  intro u1_2 hr
  have zu1_2 := hr.size
  have Hx6 := hid ((qwr.widen (R' := (fun k => (R k) ∨ (New u1_0 u1_1a k) ∨ (New u1_1 u1_2a k))) (by intro k h1; simp only [or_assoc] at h1 ⊢; exact h1) (Nat.le_refl _)).mod hr (by intro k h1 h2; rcases h1 with h1 | h1 | h1 <;> first | omega | (have hb := HBR.out k h1; omega)))
  have Cx7 := hid (Cx5.out.goM hm hr (by intro k h0 h2; rcases h2 with h2 | h2 <;> first | omega | exact h2))
  clear Cx5 hm hr Z act E qwr Hx4
  refine QChain.nil fun vs hl hzz hrows hne => ?_
  obtain ⟨Z, hYZ, hZb, hV⟩ := hzz
  have f0 := fvi hV hl 0
  have f3 := fvi hV hl 3
  have f6 := fvi hV hl 6
  rw [show vs = [gw vs 0, gw vs 1, gw vs 2, gw vs 3, gw vs 4, gw vs 5, gw vs 6] from (gw_eta hl).trans rfl]
  have ha0 := HA0.out
  subst ha0
  clear HA0 hV hYZ hZb hsz0 hrows hne oe0 oe3
  simp only [putAll, Act.put, List.setIfInBounds_toArray, List.set_cons_zero, List.set_cons_succ, f0, f3, f6]
  clear hl f0 f3 f6
  go_wp2
  go_end0
  have hq := (Hx6.out.widen (R' := (fun k => R k ∨ New w u1_2 k)) (by intro k h1; rcases h1 with h1 | h1 | h1 <;> first | exact Or.inl h1 | (right; omega)) (Nat.le_refl _))
  simp only [List.append_assoc] at hq
  exact ⟨rfl, by simpa only [nameB, List.append_assoc] using hq, (HM0.out.trans Cx7.out (fun _ _ h => h))⟩
set_option maxHeartbeats 4000000 in
theorem PutCm_Q : Puts CmR 139 cmB := by
  intro R R2 g bs cs x w hW hB hx hB2 hD hl
  obtain ⟨rfl, hok⟩ := hx
  have HW := Lib.hid hW
  have HBR := Lib.hid hB
  have HBT := Lib.hid hB2
  have HDJ := Lib.hid hD
  have HOK := Lib.hid hok
  have HL := Lib.hid hl
  clear hW hB hB2 hD hl hok
  unfold cmB at HL
  go_enter Try.func139, Try.ntmps139
  go_upto_region 1 with (fail)
  obtain ⟨w1, hw1⟩ : ∃ zz, zz = (w.alloc (.cells (x.cells : List Value).toArray 49)) := ⟨_, rfl⟩
  change Code.wp _ _ _ _ (w.alloc (.cells (x.cells : List Value).toArray 49))
  rw [← hw1]
  have HB3 := hid (show Cs w1 (w.heap.size) (x.cells : List Value).toArray 49 by rw [hw1]; exact Cs.new _ _ _)
  have hm : Mod (fun _ => False) w w1 := by rw [hw1]; exact (Mod.refl _ _).alloc _
  have HM0 := hid (show Mod (fun k => (R k)) w w1 from hm.mono (fun _ _ h => h.elim))
  have hs1 : w1.heap.size = w.heap.size + 1 := by rw [hw1]; simp
  have Hx1 := hid (HW.out.mod hm (fun _ _ h => h))
  clear HW
  clear hw1 hm
  go_upto_region 1 with (fail)
  refine wp_region_U 19 [4, 5, 6, 7] [0, 1, 2, 3] (fun a0 HA0 => ?_)
  have oe0 := ev HA0 0 rfl
  have oe3 := ev HA0 3 rfl
  refine QSeq.pure rfl _ (fun E => ex_move rfl (E.v oe0)) ?_
  refine QSeq.pure rfl (.pointer (some ⟨w.heap.size, 0, none⟩)) (fun E => ex_field rfl Try.underlying49 rfl (by kernel_rfl) (E.v oe3)) ?_
  refine QSeq.pure rfl _ (fun E => ex_loadA rfl Try.underlying23 rfl (off := 0) (cs := [.int .i64 x.cl, .int .i64 x.sq]) (by kernel_rfl) (E.d 1 0) (Cs.preA (pre := [.int .i64 x.cl, .int .i64 x.sq]) (mid := x.h.map bv) (post := [.int .i64 x.ln, .int .i64 x.sb, .int .i64 x.mr]) HB3.out rfl)) ?_
  refine QSeq.call rfl rfl Try.func65 (PutName_Q Hx1.out (by intro k h1; have hb := HBR.out k h1; omega) HOK.out.1.1 HOK.out.1.2.1 (by have := HL.out; simp only [List.length_append] at this ⊢; omega)) (fun E => args2 (E.d 0 2) (E.d 2 0)) ?_
  rintro e u1_3 ⟨rfl, qwr, hm⟩
  refine ⟨_, rfl, ?_⟩
  have Hx2 := hid (qwr.widen (R' := (fun k => (R k) ∨ (New w1 u1_3 k))) (fun _ h => h) (Nat.le_refl _))
  have zu1_3 := hm.size
  have Cx3 := hid (show Mod (fun k => (R k)) w1 u1_3 from hm)
  clear hm
  clear qwr Hx1
  refine QSeq.nil (t' := [_, _, _, _]) rfl ?_
  obtain rfl := HA0.out
  clear HA0 oe0 oe3
  simp only [pz, Act.put, List.setIfInBounds_toArray, List.set_cons_zero, List.set_cons_succ]
  go_upto_region 2 with (fail)
  generalize ha0 : Act.mk _ _ = a0
  have oe0 : a0.eval (.tmp 0) = .pointer (some ⟨g, 0, none⟩) := by rw [← ha0]; rfl
  have oe3 : a0.eval (.tmp 3) = .pointer (some ⟨w.heap.size, 0, none⟩) := by rw [← ha0]; rfl
  have hsz0 : a0.tmps.size = 19 := by rw [← ha0]; rfl
  have HA0 := hid ha0
  clear ha0
  refine wp_region_Q1 19 hsz0 [8, 9, 10, 11, 12, 13, 14] (fun k => (R k) ∨ (New w1 u1_3 k)) (fun k j => (k = 0 ∧ ((R j) ∨ (New w1 u1_3 j))) ∨ (k = 1 ∧ ((R j) ∨ (New w1 u1_3 j)))) (by intro k j h; (try dsimp only at h ⊢); rcases h with ⟨-, h | h⟩ | ⟨-, h | h⟩; (exact Or.inl (h)); (exact Or.inr (h)); (exact Or.inl (h)); (exact Or.inr (h))) [qi (.pointer (some ⟨g, 0, none⟩)), qi (.pointer (some ⟨w.heap.size, 2, none⟩)), qi (hv x.h), qi (.pointer (some ⟨g, 0, none⟩)), qi (.pointer (some ⟨w.heap.size, 34, none⟩)), qi (.int .i64 x.ln), qi (.pointer (some ⟨g, 0, none⟩))] ⟨qi_stable, qi_stable, qi_stable, qi_stable, qi_stable, qi_stable, qi_stable, trivial⟩ [3, 6] ⟨?_, ?_, ?_, ?_, ?_, ?_, ?_, trivial⟩ ?_
  · exact stq (fun E => ex_move rfl (E.v oe0))
  · exact stq (fun E => ex_field rfl Try.underlying49 rfl (by kernel_rfl) (E.v oe3))
  · exact stq (fun E => ex_loadA rfl Try.underlying25 rfl (off := 2) (cs := x.h.map bv) (by rw [List.length_map, HOK.out.2.1]; exact size_hash) (E.d 1) (((HB3.out.mod Cx3.out (by intro h2; first | omega | (have hb := HBR.out _ h2; omega))).mod E.m (by intro h2; rcases h2 with ⟨h0, h2 | h2⟩ | h2 <;> first | omega | (have hb := HBR.out _ h2; omega))).hash))
  · exact stepq_chain rfl
  · exact stq (fun E => ex_field rfl Try.underlying49 rfl (by kernel_rfl) (E.v oe3))
  · exact stq (fun E => ex_load1 rfl Try.underlying3 rfl (E.d 4) (((HB3.out.mod Cx3.out (by intro h2; first | omega | (have hb := HBR.out _ h2; omega))).mod E.m (by intro h2; rcases h2 with ⟨h0, h2 | h2⟩ | h2 <;> first | omega | (have hb := HBR.out _ h2; omega))).c34 HOK.out.2.1))
  · exact stepq_chain rfl
  intro u2_0 hr
  have zu2_0 := hr.size
  have Cx4 := hid (hr.new (S := (fun k => (R k) ∨ (New w1 u1_3 k))))
  have Hx5 := hid (Hx2.out.mod hr (by intro k h1 h2; rcases h1 with h1 | h1 <;> first | omega | (have hb := HBR.out k h1; omega)))
  clear Hx2
  clear hr
  refine QChain.go fun Z act E => ?_
  refine qc_callF (args := #[.pointer (some ⟨g, 0, none⟩), hv x.h]) rfl (wanted_none rfl) rfl Try.func66 (args2 (E.d 0) (E.d 2)) (WHash_Q Hx5.out HOK.out.2 (by have := HL.out; simp only [List.length_append] at this ⊢; omega)) ?_
  rintro e u2_1a ⟨rfl, qwr, hm⟩
  have zu2_1a := hm.size
  refine ⟨_, rfl, hm.mono (by intro k hk h; rcases h with h | h <;> first | omega | exact Or.inl ⟨(by have hb := HBR.out k h; omega), Or.inl ⟨rfl, Or.inl h⟩⟩), (fun _ => rfl), ?_⟩
  intro u2_1 hr
  have zu2_1 := hr.size
  have Hx6 := hid ((qwr.widen (R' := (fun k => (R k) ∨ (New w1 u1_3 k) ∨ (New u2_0 u2_1a k))) (by intro k h1; simp only [or_assoc] at h1 ⊢; exact h1) (Nat.le_refl _)).mod hr (by intro k h1 h2; rcases h1 with h1 | h1 | h1 <;> first | omega | (have hb := HBR.out k h1; omega)))
  have Cx7 := hid (Cx4.out.goM hm hr (fun _ _ h => h))
  clear Cx4 hm hr Z act E qwr Hx5
  refine QChain.go fun Z act E => ?_
  refine qc_callF (args := #[.pointer (some ⟨g, 0, none⟩), .int .i64 x.ln]) rfl (wanted_none rfl) rfl Try.func64 (args2 (E.d 3) (E.d 5)) (WInt_Q Hx6.out HOK.out.1.2.2.1 (by have := HL.out; simp only [List.length_append] at this ⊢; omega)) ?_
  rintro e u2_2a ⟨rfl, qwr, hm⟩
  have zu2_2a := hm.size
  refine ⟨_, rfl, hm.mono (by intro k hk h; rcases h with h | h | h <;> first | omega | exact Or.inl ⟨(by have hb := HBR.out k h; omega), Or.inr (⟨rfl, Or.inl h⟩)⟩), (fun _ => rfl), ?_⟩
  intro u2_2 hr
  have zu2_2 := hr.size
  have Hx8 := hid ((qwr.widen (R' := (fun k => (R k) ∨ (New w1 u1_3 k) ∨ (New u2_0 u2_1a k) ∨ (New u2_1 u2_2a k))) (by intro k h1; simp only [or_assoc] at h1 ⊢; exact h1) (Nat.le_refl _)).mod hr (by intro k h1 h2; rcases h1 with h1 | h1 | h1 | h1 <;> first | omega | (have hb := HBR.out k h1; omega)))
  have Cx9 := hid (Cx7.out.goM hm hr (by intro k h0 h2; rcases h2 with h2 | h2 | h2 <;> first | omega | exact Or.inl h2 | exact Or.inr (h2)))
  clear Cx7 hm hr Z act E qwr Hx6
  refine QChain.nil fun vs hl hzz hrows hne => ?_
  obtain ⟨Z, hYZ, hZb, hV⟩ := hzz
  have f0 := fvi hV hl 0
  have f3 := fvi hV hl 3
  have f6 := fvi hV hl 6
  rw [show vs = [gw vs 0, gw vs 1, gw vs 2, gw vs 3, gw vs 4, gw vs 5, gw vs 6] from (gw_eta hl).trans rfl]
  have ha0 := HA0.out
  subst ha0
  clear HA0 hV hYZ hZb hsz0 hrows hne oe0 oe3
  simp only [putAll, Act.put, List.setIfInBounds_toArray, List.set_cons_zero, List.set_cons_succ, f0, f3, f6]
  clear hl f0 f3 f6
  go_upto_region 3 with (fail)
  refine wp_region_U 19 [15, 16, 17, 18] [0, 1, 2, 3] (fun a0 HA0 => ?_)
  have oe0 := ev HA0 0 rfl
  have oe3 := ev HA0 3 rfl
  refine QSeq.pure rfl _ (fun E => ex_move rfl (E.v oe0)) ?_
  refine QSeq.pure rfl (.pointer (some ⟨w.heap.size, 35, none⟩)) (fun E => ex_field rfl Try.underlying49 rfl (by kernel_rfl) (E.v oe3)) ?_
  refine QSeq.pure rfl _ (fun E => ex_loadA rfl Try.underlying28 rfl (off := 35) (cs := [.int .i64 x.sb, .int .i64 x.mr]) (by kernel_rfl) (E.d 1 0) (((HB3.out.mod Cx3.out (by intro h2; first | omega | (have hb := HBR.out _ h2; omega))).mod Cx9.out (by intro h2; rcases h2 with h2 | h2 <;> first | omega | (have hb := HBR.out _ h2; omega))).sig HOK.out.2.1)) ?_
  refine QSeq.call rfl rfl Try.func142 (PutSig_Q Hx8.out (by intro k h1; rcases h1 with h1 | h1 | h1 | h1 <;> first | omega | (have hb := HBR.out k h1; omega)) HOK.out.1.2.2.2.1 HOK.out.1.2.2.2.2 (by have := HL.out; simp only [List.length_append] at this ⊢; omega)) (fun E => args2 (E.d 0 2) (E.d 2 0)) ?_
  rintro e u3_3 ⟨rfl, qwr, hm⟩
  refine ⟨_, rfl, ?_⟩
  have Hx10 := hid (qwr.widen (R' := (fun k => (R k) ∨ (New w1 u1_3 k) ∨ (New u2_0 u2_1a k) ∨ (New u2_1 u2_2a k) ∨ (New u2_2 u3_3 k))) (by intro k h1; simp only [or_assoc] at h1 ⊢; exact h1) (Nat.le_refl _))
  have zu3_3 := hm.size
  have Cx11 := hid (show Mod (fun k => (R k) ∨ (New w1 u1_3 k) ∨ (New u2_0 u2_1a k) ∨ (New u2_1 u2_2a k)) u2_2 u3_3 from hm)
  clear hm
  clear qwr Hx8
  refine QSeq.nil (t' := [_, _, _, _]) rfl ?_
  obtain rfl := HA0.out
  clear HA0 oe0 oe3
  simp only [pz, Act.put, List.setIfInBounds_toArray, List.set_cons_zero, List.set_cons_succ]
  go_wp2
  go_end0
  have hq := (Hx10.out.widen (R' := (fun k => R k ∨ New w u3_3 k)) (by intro k h1; rcases h1 with h1 | h1 | h1 | h1 | h1 <;> first | exact Or.inl h1 | (right; omega)) (Nat.le_refl _))
  simp only [List.append_assoc] at hq
  exact ⟨rfl, by simpa only [cmB, List.append_assoc] using hq, (((HM0.out.trans Cx3.out (fun _ _ h => h)).trans Cx9.out (by intro k h1 h2; rcases h2 with h2 | h2 <;> first | exact h2 | omega | (have hb := HBR.out k h2; omega))).trans Cx11.out (by intro k h1 h2; rcases h2 with h2 | h2 | h2 | h2 <;> first | exact h2 | omega | (have hb := HBR.out k h2; omega)))⟩
set_option maxHeartbeats 4000000 in
theorem PutSt_Q : Puts StR 141 stB := by
  intro R R2 g bs cs x w hW hB hx hB2 hD hl
  obtain ⟨rfl, hok⟩ := hx
  have HW := Lib.hid hW
  have HBR := Lib.hid hB
  have HBT := Lib.hid hB2
  have HDJ := Lib.hid hD
  have HOK := Lib.hid hok
  have HL := Lib.hid hl
  clear hW hB hB2 hD hl hok
  unfold stB at HL
  go_enter Try.func141, Try.ntmps141
  go_upto_region 1 with (fail)
  obtain ⟨w1, hw1⟩ : ∃ zz, zz = (w.alloc (.cells (x.cells : List Value).toArray 30)) := ⟨_, rfl⟩
  change Code.wp _ _ _ _ (w.alloc (.cells (x.cells : List Value).toArray 30))
  rw [← hw1]
  have HB3 := hid (show Cs w1 (w.heap.size) (x.cells : List Value).toArray 30 by rw [hw1]; exact Cs.new _ _ _)
  have hm : Mod (fun _ => False) w w1 := by rw [hw1]; exact (Mod.refl _ _).alloc _
  have HM0 := hid (show Mod (fun k => (R k)) w w1 from hm.mono (fun _ _ h => h.elim))
  have hs1 : w1.heap.size = w.heap.size + 1 := by rw [hw1]; simp
  have Hx1 := hid (HW.out.mod hm (fun _ _ h => h))
  clear HW
  clear hw1 hm
  go_upto_region 1 with (fail)
  refine wp_region_U 23 [4, 5, 6, 7] [0, 1, 2, 3] (fun a0 HA0 => ?_)
  have oe0 := ev HA0 0 rfl
  have oe3 := ev HA0 3 rfl
  refine QSeq.pure rfl _ (fun E => ex_move rfl (E.v oe0)) ?_
  refine QSeq.pure rfl (.pointer (some ⟨w.heap.size, 0, none⟩)) (fun E => ex_field rfl Try.underlying30 rfl (by kernel_rfl) (E.v oe3)) ?_
  refine QSeq.pure rfl _ (fun E => ex_load1 rfl Try.underlying3 rfl (E.d 1 0) (Cs.pre1 HB3.out rfl)) ?_
  refine QSeq.call rfl rfl Try.func64 (WInt_Q Hx1.out HOK.out.rp (by have := HL.out; simp only [List.length_append] at this ⊢; omega)) (fun E => args2 (E.d 0 2) (E.d 2 0)) ?_
  rintro e u1_3 ⟨rfl, qwr, hm⟩
  refine ⟨_, rfl, ?_⟩
  have Hx2 := hid (qwr.widen (R' := (fun k => (R k) ∨ (New w1 u1_3 k))) (fun _ h => h) (Nat.le_refl _))
  have zu1_3 := hm.size
  have Cx3 := hid (show Mod (fun k => (R k)) w1 u1_3 from hm)
  clear hm
  clear qwr Hx1
  refine QSeq.nil (t' := [_, _, _, _]) rfl ?_
  obtain rfl := HA0.out
  clear HA0 oe0 oe3
  simp only [pz, Act.put, List.setIfInBounds_toArray, List.set_cons_zero, List.set_cons_succ]
  go_upto_region 2 with (fail)
  refine wp_region_U 23 [8, 9, 10, 11] [0, 1, 2, 3] (fun a0 HA0 => ?_)
  have oe0 := ev HA0 0 rfl
  have oe3 := ev HA0 3 rfl
  refine QSeq.pure rfl _ (fun E => ex_move rfl (E.v oe0)) ?_
  refine QSeq.pure rfl (.pointer (some ⟨w.heap.size, 1, none⟩)) (fun E => ex_field rfl Try.underlying30 rfl (by kernel_rfl) (E.v oe3)) ?_
  refine QSeq.pure rfl _ (fun E => ex_loadA rfl Try.underlying23 rfl (off := 1) (cs := [.int .i64 x.cl, .int .i64 x.sq]) (by kernel_rfl) (E.d 1 0) (Cs.preA (HB3.out.mod Cx3.out (by intro h2; first | omega | (have hb := HBR.out _ h2; omega))) rfl)) ?_
  refine QSeq.call rfl rfl Try.func65 (PutName_Q Hx2.out (by intro k h1; rcases h1 with h1 | h1 <;> first | omega | (have hb := HBR.out k h1; omega)) HOK.out.cl HOK.out.sq (by have := HL.out; simp only [List.length_append] at this ⊢; omega)) (fun E => args2 (E.d 0 2) (E.d 2 0)) ?_
  rintro e u2_3 ⟨rfl, qwr, hm⟩
  refine ⟨_, rfl, ?_⟩
  have Hx4 := hid (qwr.widen (R' := (fun k => (R k) ∨ (New w1 u1_3 k) ∨ (New u1_3 u2_3 k))) (by intro k h1; simp only [or_assoc] at h1 ⊢; exact h1) (Nat.le_refl _))
  have zu2_3 := hm.size
  have Cx5 := hid (show Mod (fun k => (R k) ∨ (New w1 u1_3 k)) u1_3 u2_3 from hm)
  clear hm
  clear qwr Hx2
  refine QSeq.nil (t' := [_, _, _, _]) rfl ?_
  obtain rfl := HA0.out
  clear HA0 oe0 oe3
  simp only [pz, Act.put, List.setIfInBounds_toArray, List.set_cons_zero, List.set_cons_succ]
  go_upto_region 3 with (fail)
  generalize ha0 : Act.mk _ _ = a0
  have oe0 : a0.eval (.tmp 0) = .pointer (some ⟨g, 0, none⟩) := by rw [← ha0]; rfl
  have oe3 : a0.eval (.tmp 3) = .pointer (some ⟨w.heap.size, 0, none⟩) := by rw [← ha0]; rfl
  have hsz0 : a0.tmps.size = 23 := by rw [← ha0]; rfl
  have HA0 := hid ha0
  clear ha0
  refine wp_region_Q1 23 hsz0 [12, 13, 14, 15, 16, 17, 18] (fun k => (R k) ∨ (New w1 u1_3 k) ∨ (New u1_3 u2_3 k)) (fun k j => (k = 0 ∧ ((R j) ∨ (New w1 u1_3 j) ∨ (New u1_3 u2_3 j))) ∨ (k = 1 ∧ ((R j) ∨ (New w1 u1_3 j) ∨ (New u1_3 u2_3 j)))) (by intro k j h; (try dsimp only at h ⊢); rcases h with ⟨-, h | h | h⟩ | ⟨-, h | h | h⟩; (exact Or.inl (h)); (exact Or.inr (Or.inl (h))); (exact Or.inr (Or.inr (h))); (exact Or.inl (h)); (exact Or.inr (Or.inl (h))); (exact Or.inr (Or.inr (h)))) [qi (.pointer (some ⟨g, 0, none⟩)), qi (.pointer (some ⟨w.heap.size, 3, none⟩)), qi (hv x.h), qi (.pointer (some ⟨g, 0, none⟩)), qi (.pointer (some ⟨w.heap.size, 35, none⟩)), qi (.int .u64 (x.tm : Nat)), qi (.pointer (some ⟨g, 0, none⟩))] ⟨qi_stable, qi_stable, qi_stable, qi_stable, qi_stable, qi_stable, qi_stable, trivial⟩ [3, 6] ⟨?_, ?_, ?_, ?_, ?_, ?_, ?_, trivial⟩ ?_
  · exact stq (fun E => ex_move rfl (E.v oe0))
  · exact stq (fun E => ex_field rfl Try.underlying30 rfl (by kernel_rfl) (E.v oe3))
  · exact stq (fun E => ex_loadA rfl Try.underlying25 rfl (off := 3) (cs := x.h.map bv) (by rw [List.length_map, HOK.out.h.1]; exact size_hash) (E.d 1) (Cs.midA (((HB3.out.mod Cx3.out (by intro h2; first | omega | (have hb := HBR.out _ h2; omega))).mod Cx5.out (by intro h2; rcases h2 with h2 | h2 <;> first | omega | (have hb := HBR.out _ h2; omega))).mod E.m (by intro h2; rcases h2 with ⟨h0, h2 | h2 | h2⟩ | h2 <;> first | omega | (have hb := HBR.out _ h2; omega))) rfl))
  · exact stepq_chain rfl
  · exact stq (fun E => ex_field rfl Try.underlying30 rfl (by kernel_rfl) (E.v oe3))
  · exact stq (fun E => ex_load1 rfl Try.underlying26 rfl (E.d 4) (Cs.post1 (m := 32) (k := 0) (((HB3.out.mod Cx3.out (by intro h2; first | omega | (have hb := HBR.out _ h2; omega))).mod Cx5.out (by intro h2; rcases h2 with h2 | h2 <;> first | omega | (have hb := HBR.out _ h2; omega))).mod E.m (by intro h2; rcases h2 with ⟨h0, h2 | h2 | h2⟩ | h2 <;> first | omega | (have hb := HBR.out _ h2; omega))) (by rw [List.length_map]; exact HOK.out.h.1) rfl rfl))
  · exact stepq_chain rfl
  intro u3_0 hr
  have zu3_0 := hr.size
  have Cx6 := hid (hr.new (S := (fun k => (R k) ∨ (New w1 u1_3 k) ∨ (New u1_3 u2_3 k))))
  have Hx7 := hid (Hx4.out.mod hr (by intro k h1 h2; rcases h1 with h1 | h1 | h1 <;> first | omega | (have hb := HBR.out k h1; omega)))
  clear Hx4
  clear hr
  refine QChain.go fun Z act E => ?_
  refine qc_callF (args := #[.pointer (some ⟨g, 0, none⟩), hv x.h]) rfl (wanted_none rfl) rfl Try.func66 (args2 (E.d 0) (E.d 2)) (WHash_Q Hx7.out HOK.out.h (by have := HL.out; simp only [List.length_append] at this ⊢; omega)) ?_
  rintro e u3_1a ⟨rfl, qwr, hm⟩
  have zu3_1a := hm.size
  refine ⟨_, rfl, hm.mono (by intro k hk h; rcases h with h | h | h <;> first | omega | exact Or.inl ⟨(by have hb := HBR.out k h; omega), Or.inl ⟨rfl, Or.inl h⟩⟩), (fun _ => rfl), ?_⟩
  intro u3_1 hr
  have zu3_1 := hr.size
  have Hx8 := hid ((qwr.widen (R' := (fun k => (R k) ∨ (New w1 u1_3 k) ∨ (New u1_3 u2_3 k) ∨ (New u3_0 u3_1a k))) (by intro k h1; simp only [or_assoc] at h1 ⊢; exact h1) (Nat.le_refl _)).mod hr (by intro k h1 h2; rcases h1 with h1 | h1 | h1 | h1 <;> first | omega | (have hb := HBR.out k h1; omega)))
  have Cx9 := hid (Cx6.out.goM hm hr (fun _ _ h => h))
  clear Cx6 hm hr Z act E qwr Hx7
  refine QChain.go fun Z act E => ?_
  refine qc_callF (args := #[.pointer (some ⟨g, 0, none⟩), .int .u64 (x.tm : Nat)]) rfl (wanted_none rfl) rfl Try.func67 (args2 (E.d 3) (E.d 5)) (WNum_Q Hx8.out HOK.out.tm (by have := HL.out; simp only [List.length_append] at this ⊢; omega)) ?_
  rintro e u3_2a ⟨rfl, qwr, hm⟩
  have zu3_2a := hm.size
  refine ⟨_, rfl, hm.mono (by intro k hk h; rcases h with h | h | h | h <;> first | omega | exact Or.inl ⟨(by have hb := HBR.out k h; omega), Or.inr (⟨rfl, Or.inl h⟩)⟩), (fun _ => rfl), ?_⟩
  intro u3_2 hr
  have zu3_2 := hr.size
  have Hx10 := hid ((qwr.widen (R' := (fun k => (R k) ∨ (New w1 u1_3 k) ∨ (New u1_3 u2_3 k) ∨ (New u3_0 u3_1a k) ∨ (New u3_1 u3_2a k))) (by intro k h1; simp only [or_assoc] at h1 ⊢; exact h1) (Nat.le_refl _)).mod hr (by intro k h1 h2; rcases h1 with h1 | h1 | h1 | h1 | h1 <;> first | omega | (have hb := HBR.out k h1; omega)))
  have Cx11 := hid (Cx9.out.goM hm hr (by intro k h0 h2; rcases h2 with h2 | h2 | h2 | h2 <;> first | omega | exact Or.inl h2 | exact Or.inr (Or.inl h2) | exact Or.inr (Or.inr (h2))))
  clear Cx9 hm hr Z act E qwr Hx8
  refine QChain.nil fun vs hl hzz hrows hne => ?_
  obtain ⟨Z, hYZ, hZb, hV⟩ := hzz
  have f0 := fvi hV hl 0
  have f3 := fvi hV hl 3
  have f6 := fvi hV hl 6
  rw [show vs = [gw vs 0, gw vs 1, gw vs 2, gw vs 3, gw vs 4, gw vs 5, gw vs 6] from (gw_eta hl).trans rfl]
  have ha0 := HA0.out
  subst ha0
  clear HA0 hV hYZ hZb hsz0 hrows hne oe0 oe3
  simp only [putAll, Act.put, List.setIfInBounds_toArray, List.set_cons_zero, List.set_cons_succ, f0, f3, f6]
  clear hl f0 f3 f6
  go_upto_region 4 with (fail)
  refine wp_region_U 23 [19, 20, 21, 22] [0, 1, 2, 3] (fun a0 HA0 => ?_)
  have oe0 := ev HA0 0 rfl
  have oe3 := ev HA0 3 rfl
  refine QSeq.pure rfl _ (fun E => ex_move rfl (E.v oe0)) ?_
  refine QSeq.pure rfl (.pointer (some ⟨w.heap.size, 36, none⟩)) (fun E => ex_field rfl Try.underlying30 rfl (by kernel_rfl) (E.v oe3)) ?_
  refine QSeq.pure rfl _ (fun E => ex_loadA rfl Try.underlying28 rfl (off := 36) (cs := [.int .i64 x.sb, .int .i64 x.mr]) (by kernel_rfl) (E.d 1 0) (Cs.postA (m := 32) (k := 1) (((HB3.out.mod Cx3.out (by intro h2; first | omega | (have hb := HBR.out _ h2; omega))).mod Cx5.out (by intro h2; rcases h2 with h2 | h2 <;> first | omega | (have hb := HBR.out _ h2; omega))).mod Cx11.out (by intro h2; rcases h2 with h2 | h2 | h2 <;> first | omega | (have hb := HBR.out _ h2; omega))) (by rw [List.length_map]; exact HOK.out.h.1) rfl rfl)) ?_
  refine QSeq.call rfl rfl Try.func142 (PutSig_Q Hx10.out (by intro k h1; rcases h1 with h1 | h1 | h1 | h1 | h1 <;> first | omega | (have hb := HBR.out k h1; omega)) HOK.out.sb HOK.out.mr (by have := HL.out; simp only [List.length_append] at this ⊢; omega)) (fun E => args2 (E.d 0 2) (E.d 2 0)) ?_
  rintro e u4_3 ⟨rfl, qwr, hm⟩
  refine ⟨_, rfl, ?_⟩
  have Hx12 := hid (qwr.widen (R' := (fun k => (R k) ∨ (New w1 u1_3 k) ∨ (New u1_3 u2_3 k) ∨ (New u3_0 u3_1a k) ∨ (New u3_1 u3_2a k) ∨ (New u3_2 u4_3 k))) (by intro k h1; simp only [or_assoc] at h1 ⊢; exact h1) (Nat.le_refl _))
  have zu4_3 := hm.size
  have Cx13 := hid (show Mod (fun k => (R k) ∨ (New w1 u1_3 k) ∨ (New u1_3 u2_3 k) ∨ (New u3_0 u3_1a k) ∨ (New u3_1 u3_2a k)) u3_2 u4_3 from hm)
  clear hm
  clear qwr Hx10
  refine QSeq.nil (t' := [_, _, _, _]) rfl ?_
  obtain rfl := HA0.out
  clear HA0 oe0 oe3
  simp only [pz, Act.put, List.setIfInBounds_toArray, List.set_cons_zero, List.set_cons_succ]
  go_wp2
  go_end0
  have hq := (Hx12.out.widen (R' := (fun k => R k ∨ New w u4_3 k)) (by intro k h1; rcases h1 with h1 | h1 | h1 | h1 | h1 | h1 <;> first | exact Or.inl h1 | (right; omega)) (Nat.le_refl _))
  simp only [List.append_assoc] at hq
  exact ⟨rfl, by simpa only [stB, List.append_assoc] using hq, ((((HM0.out.trans Cx3.out (fun _ _ h => h)).trans Cx5.out (by intro k h1 h2; rcases h2 with h2 | h2 <;> first | exact h2 | omega | (have hb := HBR.out k h2; omega))).trans Cx11.out (by intro k h1 h2; rcases h2 with h2 | h2 | h2 <;> first | exact h2 | omega | (have hb := HBR.out k h2; omega))).trans Cx13.out (by intro k h1 h2; rcases h2 with h2 | h2 | h2 | h2 | h2 <;> first | exact h2 | omega | (have hb := HBR.out k h2; omega)))⟩
set_option maxHeartbeats 4000000 in
theorem PutList_St : PutsL StR 140 141 stB := by
  intro R R2 g bs v l w hW hB hs hB2 hD hl
  obtain ⟨ao, cap, rfl⟩ := hs.shape
  have hb64 : l.length ≤ maxLen := hs.bd
  rw [maxLen_val] at hb64
  have HI64 := hid (show I64 (l.length : Int) by unfold I64; omega)
  have HW := Lib.hid hW
  have HS := Lib.hid hs
  have HBR := Lib.hid hB
  have HBT := Lib.hid hB2
  have HDJ := Lib.hid hD
  have HL := Lib.hid hl
  clear hW hB hs hB2 hD hl
  unfold listB at HL
  go_enter Try.func140, Try.ntmps140
  go_upto_region 0 with (fail)
  have HM0 := hid (Mod.refl (fun k => (R k)) w)
  go_upto_region 0 with (fail)
  refine wp_region_U 23 [8, 9, 10, 11] [0, 1, 2, 3] (fun a0 HA0 => ?_)
  have oe0 := ev HA0 0 rfl
  have oe1 := ev HA0 1 rfl
  refine QSeq.pure rfl _ (fun E => ex_move rfl (E.v oe0)) ?_
  refine QSeq.pure rfl _ (fun E => ex_move rfl (E.v oe1)) ?_
  refine QSeq.pure rfl (.int .i64 l.length) (fun E => ex_lenS rfl (E.d 1 0) Try.underlying50) ?_
  refine QSeq.call rfl rfl Try.func64 (WInt_Q HW.out HI64.out (by have := HL.out; simp only [List.length_append] at this ⊢; omega)) (fun E => args2 (E.d 0 2) (E.d 2 0)) ?_
  rintro e u0_3 ⟨rfl, qwr, hm⟩
  refine ⟨_, rfl, ?_⟩
  have Hx1 := hid (qwr.widen (R' := (fun k => (R k) ∨ (New w u0_3 k))) (fun _ h => h) (Nat.le_refl _))
  have zu0_3 := hm.size
  have Cx2 := hid (show Mod (fun k => (R k)) w u0_3 from hm)
  clear hm
  clear qwr HW
  refine QSeq.nil (t' := [_, _, _, _]) rfl ?_
  obtain rfl := HA0.out
  clear HA0 oe0 oe1
  simp only [pz, Act.put, List.setIfInBounds_toArray, List.set_cons_zero, List.set_cons_succ]
  go_wp2
  go_loopw [14] (fun t wr => ∃ k : Nat, t = .int .i64 (k : Int) ∧ k ≤ l.length ∧ u0_3.heap.size ≤ wr.heap.size ∧ WrR (fun b => R b ∨ (w.heap.size ≤ b ∧ b < wr.heap.size)) 900000 wr g (bs ++ (encI l.length ++ ((l.take k).map stB).flatten)) ∧ RdS StR R2 wr (.slice ao l.length cap) l ∧ Mod R w wr) (fun t _ => l.length - (intOf t).toNat)
  case atStart => exact ⟨0, rfl, Nat.zero_le _, Nat.le_refl _, by have hq := (Hx1.out.widen (R' := (fun k => R k ∨ (w.heap.size ≤ k ∧ k < u0_3.heap.size))) (by intro k h1; rcases h1 with h1 | h1 <;> first | exact Or.inl h1 | (right; omega)) (Nat.le_refl _)); simpa only [List.take_zero, List.map_nil, List.flatten_nil, List.append_nil] using hq, (HS.out.mod Cx2.out (by intro k h1 h2; first | omega | (have hb := HBT.out k h1; omega) | (have hb := HBR.out k h2; omega) | exact HDJ.out k h1 h2 | exact HDJ.out k h2 h1 | (have hb := HBT.out k h1; have hb2 := HBR.out k h2; omega))), (HM0.out.trans Cx2.out (fun _ _ h => h))⟩
  case round =>
    obtain ⟨k, rfl, hk, hz, hw, hs, hm⟩ := hrel
    have HW2 := Lib.hid hw
    have HS2 := Lib.hid hs
    have HM2 := Lib.hid hm
    clear hw hs hm Hx1 HS HM0
    obtain ⟨wo, rfl⟩ : ∃ x, x = wr := ⟨_, rfl⟩
    by_cases hlt : k < l.length
    · skip
      obtain ⟨g0, o0, cs, rfl, hrg, hrd, hcs⟩ := HS2.out.at hlt
      have hcl : cs.length = 38 := StR.len hrd
      have HCL := Lib.hid hcl
      have HAT := hid (show CellsAt R2 wo g0 (o0 + k * 38) cs from ⟨hrg, hcs⟩)
      have HRD := Lib.hid hrd
      have HOC := hid (StR.one hrd)
      clear hcl hcs hrd hrg
      have HE : Hid (bs ++ (encI l.length ++ ((l.take k).map stB).flatten) ++ stB l[k] = bs ++ (encI l.length ++ ((l.take (k + 1)).map stB).flatten)) := hid (by rw [List.take_succ_eq_append_getElem hlt, List.map_append, List.flatten_append]; simp [List.append_assoc])
      have HLk := hid (show (bs ++ (encI l.length ++ ((l.take k).map stB).flatten) ++ stB l[k]).length ≤ 900000 by rw [HE.out]; exact Nat.le_trans (put_len _ _ _ _ _) HL.out)
      go_upto_region 3 with (fail)
      refine wp_region_U 23 [16, 17, 7, 26] [0, 1, 2, 3] (fun a0 HA0 => ?_)
      have oe12 := ev HA0 12 rfl
      have oe14 := ev HA0 14 rfl
      refine QSeq.pure rfl (.pointer (some ⟨g0, o0 + k * 38, none⟩)) (fun E => ex_idxS (i := k) (s := 38) rfl Try.underlying50 (by kernel_rfl) (E.v oe12) (E.v oe14) (by omega)) ?_
      refine QSeq.pure rfl _ (fun E => ex_loadA rfl Try.underlying30 rfl (off := o0 + k * 38) (cs := cs) (by rw [HCL.out]; kernel_rfl) (E.d 0 0) (fun j u hu => (HAT.out).2 j u hu)) ?_
      refine QSeq.go fun act E => ?_
      refine qc_alloc rfl (wanted_none rfl) rfl (z := [.int .i64 0, .int .i64 0, .int .i64 0, .int .u8 0, .int .u8 0, .int .u8 0, .int .u8 0, .int .u8 0, .int .u8 0, .int .u8 0, .int .u8 0, .int .u8 0, .int .u8 0, .int .u8 0, .int .u8 0, .int .u8 0, .int .u8 0, .int .u8 0, .int .u8 0, .int .u8 0, .int .u8 0, .int .u8 0, .int .u8 0, .int .u8 0, .int .u8 0, .int .u8 0, .int .u8 0, .int .u8 0, .int .u8 0, .int .u8 0, .int .u8 0, .int .u8 0, .int .u8 0, .int .u8 0, .int .u8 0, .int .u64 0, .int .i64 0, .int .i64 0]) (by kernel_rfl) ?_
      intro u3_2 qq hm
      have zl3_2 := qq.lt
      have Hx3 := hid qq
      have zu3_2 := hm.size
      have Cx4 := hid (show Mod (fun _ => False) wo u3_2 from hm)
      clear hm
      clear act E qq
      refine QSeq.go fun act E => ?_
      have hlz : (cs).length = List.length ([.int .i64 0, .int .i64 0, .int .i64 0, .int .u8 0, .int .u8 0, .int .u8 0, .int .u8 0, .int .u8 0, .int .u8 0, .int .u8 0, .int .u8 0, .int .u8 0, .int .u8 0, .int .u8 0, .int .u8 0, .int .u8 0, .int .u8 0, .int .u8 0, .int .u8 0, .int .u8 0, .int .u8 0, .int .u8 0, .int .u8 0, .int .u8 0, .int .u8 0, .int .u8 0, .int .u8 0, .int .u8 0, .int .u8 0, .int .u8 0, .int .u8 0, .int .u8 0, .int .u8 0, .int .u8 0, .int .u8 0, .int .u64 0, .int .i64 0, .int .i64 0] : List Value) := (by rw [HCL.out]; rfl)
      refine qc_store rfl (wanted_none rfl) rfl Hx3.out (off := 0) (vs := cs) (by rw [hlz]; kernel_rfl) HOC.out (by rw [hlz]; exact Nat.le_of_eq (Nat.zero_add _)) (E.d 2 0) (ec (E.d 1 1)) ?_
      intro u3_3 qc0 hm
      have qq := qc0.eqv (b := (cs : List Value).toArray) (lay_whole #[.int .i64 0, .int .i64 0, .int .i64 0, .int .u8 0, .int .u8 0, .int .u8 0, .int .u8 0, .int .u8 0, .int .u8 0, .int .u8 0, .int .u8 0, .int .u8 0, .int .u8 0, .int .u8 0, .int .u8 0, .int .u8 0, .int .u8 0, .int .u8 0, .int .u8 0, .int .u8 0, .int .u8 0, .int .u8 0, .int .u8 0, .int .u8 0, .int .u8 0, .int .u8 0, .int .u8 0, .int .u8 0, .int .u8 0, .int .u8 0, .int .u8 0, .int .u8 0, .int .u8 0, .int .u8 0, .int .u8 0, .int .u64 0, .int .i64 0, .int .i64 0] _ (by rw [hlz]; rfl))
      clear qc0 hlz
      have Hx5 := hid qq
      have zu3_3 := hm.size
      have HMu3_3 := hid hm
      have Cx6 := hid (Mod.goS (S' := (fun _ => False)) Cx4.out hm (fun _ h => h) (by intro k h0 h2; omega))
      clear hm Cx4
      clear act E qq Hx3
      clear HMu3_3
      refine QSeq.nil (t' := [_, _, _, _]) rfl ?_
      obtain rfl := HA0.out
      clear HA0 oe12 oe14
      simp only [pz, Act.put, List.setIfInBounds_toArray, List.set_cons_zero, List.set_cons_succ, List.set_nil]
      go_upto_region 4 with (fail)
      refine wp_region_U 23 [18, 19, 20, 21] [0, 1, 2, 3] (fun a0 HA0 => ?_)
      have oe0 := ev HA0 0 rfl
      have oe2 := ev HA0 2 rfl
      have oe7 := ev HA0 7 rfl
      refine QSeq.pure rfl _ (fun E => ex_move rfl (E.v oe2)) ?_
      refine QSeq.pure rfl _ (fun E => ex_move rfl (E.v oe0)) ?_
      refine QSeq.pure rfl _ (fun E => ex_loadA rfl Try.underlying30 rfl (off := 0) (cs := cs) (by rw [HCL.out]; kernel_rfl) (E.v oe7) (Cs.whole Hx5.out)) ?_
      refine QSeq.go fun act E => ?_
      have ea19 : act.eval (.tmp 19) = .pointer (some ⟨g, 0, none⟩) := (E.d 1 1)
      have ea20 : act.eval (.tmp 20) = .agg cs.toArray := (E.d 2 0)
      refine qc_call (args := #[.pointer (some ⟨g, 0, none⟩), .agg cs.toArray]) rfl (wanted_none rfl) (by rw [ex_callV rfl (E.d 0 2) Try.func141 (by kernel_rfl) (by kernel_rfl)]; exact congrArg (fun z => Result.ok (Next.enter _ z) _) (by simp only [List.map_toArray, List.map_cons, List.map_nil, ea19, ea20]; try rfl)) (PutSt_Q _ _ _ _ _ _ _ (HW2.out.mod Cx6.out (fun _ _ h => h)) (by intro k h1; rcases h1 with h1 | h1 <;> first | omega | (have hb := HBR.out k h1; omega)) (HRD.out.mod Cx6.out (fun _ _ h => h)) (by intro k h1; have hb := HBT.out k h1; omega) (by intro k h1 h2; rcases h1 with h1 | h1 <;> first | omega | (have hb := HBR.out k h1; omega) | (have hb := HBT.out k h2; omega) | exact HDJ.out k h1 h2 | exact HDJ.out k h2 h1 | (have hb := HBR.out k h1; have hb2 := HBT.out k h2; omega)) HLk.out) ?_
      rintro e u4_3 ⟨rfl, qwr, hm⟩
      refine ⟨_, rfl, ?_⟩
      have Hx7 := hid (qwr.widen (R' := (fun k => (R k) ∨ (New w wo k) ∨ (New u3_3 u4_3 k))) (by intro k h1; simp only [or_assoc] at h1 ⊢; exact h1) (Nat.le_refl _))
      have zu4_3 := hm.size
      have Cx8 := hid (show Mod (fun k => (R k) ∨ (New w wo k)) u3_3 u4_3 from hm)
      clear hm
      clear act E qwr HW2 ea19 ea20
      refine QSeq.nil (t' := [_, _, _, _]) rfl ?_
      obtain rfl := HA0.out
      clear HA0 oe0 oe2 oe7
      simp only [pz, Act.put, List.setIfInBounds_toArray, List.set_cons_zero, List.set_cons_succ]
      have hq := Hx7.out
      rw [HE.out] at hq
      have HQ := Lib.hid hq
      clear hq
      go_wp2
      go_roundw
      case rel => exact ⟨k + 1, by go_num, by omega, by omega, (HQ.out.widen (by intro b h1; rcases h1 with h1 | h1 | h1 <;> first | exact Or.inl h1 | (right; omega)) (Nat.le_refl _)), ((HS2.out.mod Cx6.out (fun _ _ h => h)).mod Cx8.out (by intro k h1 h2; rcases h2 with h2 | h2 <;> first | omega | (have hb := HBT.out k h1; omega) | (have hb := HBR.out k h2; omega) | exact HDJ.out k h1 h2 | exact HDJ.out k h2 h1 | (have hb := HBT.out k h1; have hb2 := HBR.out k h2; omega))), ((HM2.out.trans Cx6.out (fun _ _ h => h.elim)).trans Cx8.out (by intro k h1 h2; rcases h2 with h2 | h2 <;> first | exact h2 | omega | (have hb := HBR.out k h2; omega)))⟩
      case measure => simp [intOf]; omega
    · have hkk : k = l.length := by omega
      subst hkk
      go_wp2
      go_end0
      have hq := HW2.out
      rw [List.take_length] at hq
      exact ⟨rfl, hq, HM2.out⟩
set_option maxHeartbeats 4000000 in
theorem PutCe_Q : Puts CeR 98 ceB := by
  intro R R2 g bs cs x w hW hB hx hB2 hD hl
  obtain ⟨v_l, rfl, hok, hs0⟩ := hx
  have HS0 := Lib.hid hs0
  clear hs0
  have HW := Lib.hid hW
  have HBR := Lib.hid hB
  have HBT := Lib.hid hB2
  have HDJ := Lib.hid hD
  have HOK := Lib.hid hok
  have HL := Lib.hid hl
  clear hW hB hB2 hD hl hok
  unfold ceB at HL
  go_enter Try.func98, Try.ntmps98
  go_upto_region 1 with (fail)
  obtain ⟨w1, hw1⟩ : ∃ zz, zz = (w.alloc (.cells (x.cells v_l : List Value).toArray 52)) := ⟨_, rfl⟩
  change Code.wp _ _ _ _ (w.alloc (.cells (x.cells v_l : List Value).toArray 52))
  rw [← hw1]
  have HB3 := hid (show Cs w1 (w.heap.size) (x.cells v_l : List Value).toArray 52 by rw [hw1]; exact Cs.new _ _ _)
  have hm : Mod (fun _ => False) w w1 := by rw [hw1]; exact (Mod.refl _ _).alloc _
  have HM0 := hid (show Mod (fun k => (R k)) w w1 from hm.mono (fun _ _ h => h.elim))
  have hs1 : w1.heap.size = w.heap.size + 1 := by rw [hw1]; simp
  have Hx1 := hid (HW.out.mod hm (fun _ _ h => h))
  clear HW
  have Hx2 := hid (HS0.out.mod hm (fun _ _ h => h))
  clear HS0
  clear hw1 hm
  go_upto_region 1 with (fail)
  refine wp_region_U 12 [4, 5, 6, 7] [0, 1, 2, 3] (fun a0 HA0 => ?_)
  have oe0 := ev HA0 0 rfl
  have oe3 := ev HA0 3 rfl
  refine QSeq.pure rfl _ (fun E => ex_move rfl (E.v oe0)) ?_
  refine QSeq.pure rfl (.pointer (some ⟨w.heap.size, 0, none⟩)) (fun E => ex_field rfl Try.underlying52 rfl (by kernel_rfl) (E.v oe3)) ?_
  refine QSeq.pure rfl _ (fun E => ex_loadA rfl Try.underlying49 rfl (off := 0) (cs := x.c.cells) (by rw [Cm.len HOK.out.2.1]; exact size_commit) (E.d 1 0) (Cs.midA (pre := []) (mid := x.c.cells) (post := [v_l]) HB3.out rfl)) ?_
  refine QSeq.call rfl rfl Try.func139 (PutCm_Q _ (fun _ => False) _ _ _ _ _ Hx1.out (by intro k h1; have hb := HBR.out k h1; omega) ⟨rfl, HOK.out⟩ (fun _ h => h.elim) (fun _ _ h => h.elim) (by have := HL.out; simp only [List.length_append] at this ⊢; omega)) (fun E => args2 (E.d 0 2) (E.d 2 0)) ?_
  rintro e u1_3 ⟨rfl, qwr, hm⟩
  refine ⟨_, rfl, ?_⟩
  have Hx3 := hid (qwr.widen (R' := (fun k => (R k) ∨ (New w1 u1_3 k))) (fun _ h => h) (Nat.le_refl _))
  have zu1_3 := hm.size
  have Cx4 := hid (show Mod (fun k => (R k)) w1 u1_3 from hm)
  clear hm
  clear qwr Hx1
  refine QSeq.nil (t' := [_, _, _, _]) rfl ?_
  obtain rfl := HA0.out
  clear HA0 oe0 oe3
  simp only [pz, Act.put, List.setIfInBounds_toArray, List.set_cons_zero, List.set_cons_succ]
  go_upto_region 2 with (fail)
  refine wp_region_U 12 [8, 9, 10, 11] [0, 1, 2, 3] (fun a0 HA0 => ?_)
  have oe0 := ev HA0 0 rfl
  have oe3 := ev HA0 3 rfl
  refine QSeq.pure rfl _ (fun E => ex_move rfl (E.v oe0)) ?_
  refine QSeq.pure rfl (.pointer (some ⟨w.heap.size, 37, none⟩)) (fun E => ex_field rfl Try.underlying52 rfl (by kernel_rfl) (E.v oe3)) ?_
  refine QSeq.pure rfl _ (fun E => ex_load1 rfl Try.underlying50 rfl (E.d 1 0) (Cs.post1 (pre := []) (mid := x.c.cells) (post := [v_l]) (m := 37) (k := 0) (HB3.out.mod Cx4.out (by intro h2; first | omega | (have hb := HBR.out _ h2; omega))) (Cm.len HOK.out.2.1) rfl rfl)) ?_
  refine QSeq.call rfl rfl Try.func140 (PutList_St _ _ _ _ _ _ _ Hx3.out (by intro k h1; rcases h1 with h1 | h1 <;> first | omega | (have hb := HBR.out k h1; omega)) (Hx2.out.mod Cx4.out (by intro k h1 h2; first | omega | (have hb := HBT.out k h1; omega) | (have hb := HBR.out k h2; omega) | exact HDJ.out k h1 h2 | exact HDJ.out k h2 h1 | (have hb := HBT.out k h1; have hb2 := HBR.out k h2; omega))) (by intro k h1; have hb := HBT.out k h1; omega) (by intro k h1 h2; rcases h1 with h1 | h1 <;> first | omega | (have hb := HBR.out k h1; omega) | (have hb := HBT.out k h2; omega) | exact HDJ.out k h1 h2 | exact HDJ.out k h2 h1 | (have hb := HBR.out k h1; have hb2 := HBT.out k h2; omega)) (by have := HL.out; simp only [List.length_append] at this ⊢; omega)) (fun E => args3 (E.d 0 2) (E.d 2 0) rfl) ?_
  rintro e u2_3 ⟨rfl, qwr, hm⟩
  refine ⟨_, rfl, ?_⟩
  have Hx5 := hid (qwr.widen (R' := (fun k => (R k) ∨ (New w1 u1_3 k) ∨ (New u1_3 u2_3 k))) (by intro k h1; simp only [or_assoc] at h1 ⊢; exact h1) (Nat.le_refl _))
  have zu2_3 := hm.size
  have Cx6 := hid (show Mod (fun k => (R k) ∨ (New w1 u1_3 k)) u1_3 u2_3 from hm)
  clear hm
  clear qwr Hx3
  refine QSeq.nil (t' := [_, _, _, _]) rfl ?_
  obtain rfl := HA0.out
  clear HA0 oe0 oe3
  simp only [pz, Act.put, List.setIfInBounds_toArray, List.set_cons_zero, List.set_cons_succ]
  go_wp2
  go_end0
  have hq := (Hx5.out.widen (R' := (fun k => R k ∨ New w u2_3 k)) (by intro k h1; rcases h1 with h1 | h1 | h1 <;> first | exact Or.inl h1 | (right; omega)) (Nat.le_refl _))
  simp only [List.append_assoc] at hq
  exact ⟨rfl, by simpa only [ceB, List.append_assoc] using hq, ((HM0.out.trans Cx4.out (fun _ _ h => h)).trans Cx6.out (by intro k h1 h2; rcases h2 with h2 | h2 <;> first | exact h2 | omega | (have hb := HBR.out k h2; omega)))⟩
end Go.Proofs.Ytknpapcfhnhheaa

/- What the readers of parts answer, in plain words; that what was put is read as it was, and that what is read was put so. -/
namespace Go.Proofs.Ytknpapcfhnhheaa
open Go Go.RowKit Go.Gv

/-- one read behind the other -/
def gb {α β : Type} (g : RSt → α × RSt) (k : α → RSt → β × RSt) (s : RSt) : β × RSt := k (g s).1 (g s).2
/-- a number up to 2^40 -/
def gI (s : RSt) : Int × RSt := (((rInt 1099511627776 s).1 : Nat), (rInt 1099511627776 s).2)
def gItems {α : Type} (g : RSt → α × RSt) : Nat → List α → RSt → List α × RSt
  | 0, acc, s => (acc, s)
  | n + 1, acc, s => if (g s).2 = none then ([], none) else gItems g n (acc ++ [(g s).1]) (g s).2
def gList {α : Type} (g : RSt → α × RSt) (s : RSt) : List α × RSt := gItems g (rInt 100 s).1 [] (rInt 100 s).2
def gSig : RSt → (Int × Int) × RSt := gb gI fun a => gb gI fun b s => ((a, b), s)
def gCm : RSt → Cm × RSt := gb gSig fun n => gb rHash fun h => gb gI fun l => gb gSig fun g s => (⟨n.1, n.2, h, l, g.1, g.2⟩, s)
def gSt : RSt → St × RSt := gb gI fun p => gb gSig fun n => gb rHash fun h => gb rNum fun t => gb gSig fun g s => (⟨p, n.1, n.2, h, t, g.1, g.2⟩, s)
def gCe : RSt → Ce × RSt := gb gCm fun c => gb (gList gSt) fun l s => (⟨c, l⟩, s)
def gPm : RSt → Pm × RSt := gb gI fun p => gb gI fun e => gb rNum fun f => gb (gList gCe) fun l => gb gSig fun g s => (⟨p, e, f, l, g.1, g.2⟩, s)
def gOp : RSt → Op × RSt := gb gI fun i => gb (rRow 256) fun p => gb rHash fun h s => (⟨i, p, h⟩, s)
def gDn : RSt → Dn × RSt := gb gI fun p => gb gI fun i => gb gSig fun g s => (⟨p, i, g.1, g.2⟩, s)
def gTb : RSt → Tb × RSt := gb gI fun i => gb (gList gDn) fun l s => (⟨i, l⟩, s)
def gBa : RSt → Ba × RSt := gb gI fun e => gb rNum fun t => gb (gList gPm) fun p => gb (gList gOp) fun o => gb (gList gTb) fun m s => (⟨e, t, p, o, m⟩, s)
/-- what was put is read as it was -/
def Ed {α : Type} (g : RSt → α × RSt) (put : α → List Int) (ok : α → Prop) : Prop := ∀ x r, ok x → g (some (put x ++ r)) = (x, some r)
/-- what is read was put so -/
def De {α : Type} (g : RSt → α × RSt) (Q : α → List Int → List Int → Prop) : Prop := ∀ s r, (g s).2 = some r → ∃ l, s = some l ∧ (Bytes l → Q (g s).1 l r)
def Was {α : Type} (put : α → List Int) (ok : α → Prop) (x : α) (l r : List Int) : Prop := l = put x ++ r ∧ ok x
/-- the numbers that are read -/
def UpI (x : Int) : Prop := 0 ≤ x ∧ x ≤ 1099511627776
theorem gI_ed : Ed gI encI UpI := by
  intro x r h
  obtain ⟨h0, h1⟩ := h
  obtain ⟨n, rfl⟩ := Int.eq_ofNat_of_zero_le h0
  unfold gI
  rw [encI_nat, rInt_enc (by unfold U64; omega), if_neg (by omega)]
theorem rNum_ed : Ed rNum encN (· < U64) := fun x r h => rNum_enc h r
theorem rHash_ed : Ed rHash (fun h => h) (fun h => h.length = 32) := fun x r h => rHash_app h r
theorem rRow_ed (most : Int) (hm : most ≤ 1000000) : Ed (rRow most) (fun b => encN b.length ++ b) (fun b => (b.length : Int) ≤ most) := by
  intro x r h
  have := rRow_enc (bs := x) (by unfold U64; omega) most r
  rw [if_neg (by omega)] at this
  simpa only [List.append_assoc] using this
theorem De.bind {α β : Type} {g : RSt → α × RSt} {k : α → RSt → β × RSt} {put : α → List Int} {ok : α → Prop} {Q : α → β → List Int → List Int → Prop} (hg : De g (Was put ok)) (hk : ∀ a, De (k a) (Q a)) :
    De (gb g k) (fun y l r => ∃ a l1, ok a ∧ l = put a ++ l1 ∧ Q a y l1 r) := by
  intro s r h
  obtain ⟨l1, e1, h1⟩ := hk _ _ _ h
  obtain ⟨l, rfl, h2⟩ := hg _ _ e1
  refine ⟨l, rfl, fun hb => ?_⟩
  obtain ⟨h3, h4⟩ := h2 hb
  refine ⟨_, l1, h4, h3, h1 (fun x hx => hb x ?_)⟩
  rw [h3]
  exact List.mem_append_right _ hx
theorem De.pure {β : Type} (y : β) : De (fun s => (y, s)) (fun y' l r => y' = y ∧ l = r) := by
  intro s r h
  exact ⟨r, h, fun _ => ⟨rfl, rfl⟩⟩
theorem De.mono {β : Type} {g : RSt → β × RSt} {Q Q' : β → List Int → List Int → Prop} (h : De g Q) (hq : ∀ y l r, Q y l r → Q' y l r) : De g Q' := by
  intro s r hr
  obtain ⟨l, e, h2⟩ := h s r hr
  exact ⟨l, e, fun hb => hq _ _ _ (h2 hb)⟩
/-- lists -/
def listOk {α : Type} (ok : α → Prop) (l : List α) : Prop := l.length ≤ 100 ∧ ∀ a ∈ l, ok a
theorem gItems_ed {α : Type} {g : RSt → α × RSt} {put : α → List Int} {ok : α → Prop} (h : Ed g put ok) : ∀ (l acc : List α) (r : List Int), (∀ a ∈ l, ok a) → gItems g l.length acc (some ((l.map put).flatten ++ r)) = (acc ++ l, some r) := by
  intro l
  induction l with
  | nil => intro acc r _; simp [gItems]
  | cons a l ih =>
    intro acc r ha
    simp only [List.length_cons, List.map_cons, List.flatten_cons, List.append_assoc, gItems]
    rw [h a _ (ha a (List.mem_cons_self ..)), if_neg (by simp), ih _ _ (fun b hb => ha b (List.mem_cons_of_mem _ hb))]
    simp
theorem gList_ed {α : Type} {g : RSt → α × RSt} {put : α → List Int} {ok : α → Prop} (h : Ed g put ok) : Ed (gList g) (listB put) (listOk ok) := by
  intro l r ⟨h1, h2⟩
  unfold gList listB
  rw [List.append_assoc, encI_nat, rInt_enc (by unfold U64; omega), if_neg (by omega)]
  simpa using gItems_ed h l [] r h2
theorem De.none {α : Type} {g : RSt → α × RSt} {Q : α → List Int → List Int → Prop} (h : De g Q) : ∀ s, s = none → (g s).2 = none := by
  intro s e
  cases hq : (g s).2 with
  | none => rfl
  | some r => obtain ⟨l, e2, -⟩ := h s r hq; rw [e] at e2; cases e2
/-! printed -/
def sgB (p : Int × Int) : List Int := encI p.1 ++ encI p.2
def sgOk (p : Int × Int) : Prop := UpI p.1 ∧ UpI p.2
def CmOk (x : Cm) : Prop := UpI x.cl ∧ UpI x.sq ∧ HK x.h ∧ UpI x.ln ∧ UpI x.sb ∧ UpI x.mr
def StOk (x : St) : Prop := UpI x.rp ∧ UpI x.cl ∧ UpI x.sq ∧ HK x.h ∧ x.tm < U64 ∧ UpI x.sb ∧ UpI x.mr
def CeOk (x : Ce) : Prop := CmOk x.c ∧ listOk StOk x.l
def PmOk (x : Pm) : Prop := UpI x.rp ∧ UpI x.ep ∧ x.fl < U64 ∧ listOk CeOk x.l ∧ UpI x.sb ∧ UpI x.mr
def OpOk (x : Op) : Prop := UpI x.ix ∧ (x.pl.length : Int) ≤ 256 ∧ HK x.nc
def DnOk (x : Dn) : Prop := UpI x.rp ∧ UpI x.ix ∧ UpI x.sb ∧ UpI x.mr
def TbOk (x : Tb) : Prop := UpI x.ix ∧ listOk DnOk x.l
def BaOk (x : Ba) : Prop := UpI x.ep ∧ x.tm < U64 ∧ listOk PmOk x.ps ∧ listOk OpOk x.os ∧ listOk TbOk x.ts
theorem gSig_ed : Ed gSig sgB sgOk := by
  intro x r ⟨h1, h2⟩
  simp only [gSig, gb, sgB, List.append_assoc, gI_ed _ _ h1, gI_ed _ _ h2]
theorem sgB_sig (a b : Int) : sgB (a, b) = sigB a b := rfl
theorem sgB_name (a b : Int) : sgB (a, b) = nameB a b := rfl
theorem gCm_ed : Ed gCm cmB CmOk := by
  intro x r h
  obtain ⟨hc, hs, hh, hl, hb, hm⟩ := h
  simp only [gCm, gb, cmB, ← sgB_sig, ← sgB_name, List.append_assoc, gSig_ed (x.cl, x.sq) _ ⟨hc, hs⟩, rHash_ed _ _ hh.1, gI_ed _ _ hl, gSig_ed (x.sb, x.mr) _ ⟨hb, hm⟩]
theorem gSt_ed : Ed gSt stB StOk := by
  intro x r h
  obtain ⟨hr, hc, hs, hh, ht, hb, hm⟩ := h
  simp only [gSt, gb, stB, ← sgB_sig, ← sgB_name, List.append_assoc, gI_ed _ _ hr, gSig_ed (x.cl, x.sq) _ ⟨hc, hs⟩, rHash_ed _ _ hh.1, rNum_ed _ _ ht, gSig_ed (x.sb, x.mr) _ ⟨hb, hm⟩]
theorem gCe_ed : Ed gCe ceB CeOk := by
  intro x r h
  obtain ⟨hc, hl⟩ := h
  simp only [gCe, gb, ceB, ← sgB_sig, ← sgB_name, List.append_assoc, gCm_ed _ _ hc, gList_ed gSt_ed _ _ hl]
theorem gPm_ed : Ed gPm pmB PmOk := by
  intro x r h
  obtain ⟨hr, he, hf, hl, hb, hm⟩ := h
  simp only [gPm, gb, pmB, ← sgB_sig, ← sgB_name, List.append_assoc, gI_ed _ _ hr, gI_ed _ _ he, rNum_ed _ _ hf, gList_ed gCe_ed _ _ hl, gSig_ed (x.sb, x.mr) _ ⟨hb, hm⟩]
theorem rowx {b r : List Int} (h : (b.length : Int) ≤ 256) : rRow 256 (some (encN b.length ++ (b ++ r))) = (b, some r) := by
  have := rRow_ed 256 (by decide) b r h
  simpa only [List.append_assoc] using this
theorem gOp_ed : Ed gOp opB OpOk := by
  intro x r h
  obtain ⟨hi, hp, hn⟩ := h
  simp only [gOp, gb, opB, ← sgB_sig, ← sgB_name, List.append_assoc, gI_ed _ _ hi, rowx hp, rHash_ed _ _ hn.1]
theorem gDn_ed : Ed gDn dnB DnOk := by
  intro x r h
  obtain ⟨hr, hi, hb, hm⟩ := h
  simp only [gDn, gb, dnB, ← sgB_sig, ← sgB_name, List.append_assoc, gI_ed _ _ hr, gI_ed _ _ hi, gSig_ed (x.sb, x.mr) _ ⟨hb, hm⟩]
theorem gTb_ed : Ed gTb tbB TbOk := by
  intro x r h
  obtain ⟨hi, hl⟩ := h
  simp only [gTb, gb, tbB, ← sgB_sig, ← sgB_name, List.append_assoc, gI_ed _ _ hi, gList_ed gDn_ed _ _ hl]
theorem gBa_ed : Ed gBa baB BaOk := by
  intro x r h
  obtain ⟨he, ht, hp, ho, hb⟩ := h
  simp only [gBa, gb, baB, ← sgB_sig, ← sgB_name, List.append_assoc, gI_ed _ _ he, rNum_ed _ _ ht, gList_ed gPm_ed _ _ hp, gList_ed gOp_ed _ _ ho, gList_ed gTb_ed _ _ hb]
end Go.Proofs.Ytknpapcfhnhheaa

/- gavelref01.Reader: numbers, rows, hashes as the document reads them; code.Reader.Row for any bound. -/
namespace Go.Proofs.Ytknpapcfhnhheaa
open Go Go.RowKit Go.Gv

end Go.Proofs.Ytknpapcfhnhheaa

/- gavelref01.Reader: rows. -/
namespace Go.Proofs.Ytknpapcfhnhheaa
open Go Go.RowKit Go.Gv

end Go.Proofs.Ytknpapcfhnhheaa

/- gavelref01.Reader: hashes. -/
namespace Go.Proofs.Ytknpapcfhnhheaa
open Go Go.RowKit Go.Gv

section
variable {R : Nat → Prop} {r : Nat} {s : RSt} {w : World}
end
end Go.Proofs.Ytknpapcfhnhheaa

/- code.Reader.Row with any bound, over a text that is not long. -/
namespace Go.Proofs.Ytknpapcfhnhheaa
open Go Go.RowKit Go.Gv

end Go.Proofs.Ytknpapcfhnhheaa

/- A block's cells as parts, one behind the other: what lies at a part, what is laid over one, what a struct is built of. No program here. -/
namespace Go.Gv
open Go Go.RowKit

end Go.Gv

/- Readers of parts: what they leave of a text, whether what they read is a thing of its kind; contracts. -/
namespace Go.Proofs.Ytknpapcfhnhheaa
open Go Go.RowKit Go.Gv

/-- what is left is an end of what there was -/
def Suf {α : Type} (g : RSt → α × RSt) : Prop := ∀ s, (g s).2 = none ∨ ∃ l k, s = some l ∧ (g s).2 = some (l.drop k)
theorem Suf.no {α : Type} {g : RSt → α × RSt} (h : Suf g) : (g none).2 = none := by
  rcases h none with h | ⟨l, k, e, -⟩
  · exact h
  · cases e
theorem Suf.bytes {α : Type} {g : RSt → α × RSt} (h : Suf g) {s : RSt} (hb : Bytes (s.getD [])) : Bytes ((g s).2.getD []) := by
  rcases h s with e | ⟨l, k, rfl, e⟩
  · rw [e]; exact Bytes.nil
  · rw [e]; exact Bytes.drop hb k
theorem Suf.len {α : Type} {g : RSt → α × RSt} (h : Suf g) (s : RSt) : ((g s).2.getD []).length ≤ (s.getD []).length := by
  rcases h s with e | ⟨l, k, rfl, e⟩
  · rw [e]; simp
  · rw [e]; simp
/-! what is read is a thing -/
theorem RrR.bytes {T : TypeId} {R : Nat → Prop} {w : World} {r : Nat} {s : RSt} (h : RrR T R w r s) : Bytes (s.getD []) := by
  obtain ⟨v, h1, -⟩ := h
  exact h1.2.1.1
/-! contracts -/
/-- a flat thing is read -/
def GetsF {α : Type} (T : TypeId) (F : FuncId) (cells : α → List Value) (g : RSt → α × RSt) : Prop := ∀ (R : Nat → Prop) (r : Nat) (s : RSt) (w : World), RrR T R w r s → (∀ k, R k → k < w.heap.size) →
  Calls Try.prog F #[.pointer (some ⟨r, 0, none⟩)] w fun e w' => e = .returned (.agg (cells (g s).1).toArray) ∧ RrR T R w' r (g s).2 ∧ Mod R w w'
/-- a thing is read -/
def Gets {α : Type} (A : Rep α) (T : TypeId) (F : FuncId) (g : RSt → α × RSt) : Prop := ∀ (R : Nat → Prop) (r : Nat) (s : RSt) (w : World), RrR T R w r s → (∀ k, R k → k < w.heap.size) → (s.getD []).length ≤ 900000 →
  Calls Try.prog F #[.pointer (some ⟨r, 0, none⟩)] w fun e w' => ∃ cs, e = .returned (.agg cs.toArray) ∧ A.rd (New w w') w' cs (g s).1 ∧ RrR T R w' r (g s).2 ∧ Mod R w w'
theorem Gets.to {α : Type} {A : Rep α} {T : TypeId} {F : FuncId} {g : RSt → α × RSt} (h : Gets A T F g) {s s' : RSt} {x : α} (hx : (g s).1 = x) (hs : (g s).2 = s') {R : Nat → Prop} {r : Nat} {w : World} (h1 : RrR T R w r s) (h2 : ∀ k, R k → k < w.heap.size) (h3 : (s.getD []).length ≤ 900000) :
    Calls Try.prog F #[.pointer (some ⟨r, 0, none⟩)] w fun e w' => ∃ cs, e = .returned (.agg cs.toArray) ∧ A.rd (New w w') w' cs x ∧ RrR T R w' r s' ∧ Mod R w w' := by
  subst hx hs
  exact h R r s w h1 h2 h3
theorem GetsF.to {α : Type} {cells : α → List Value} {T : TypeId} {F : FuncId} {g : RSt → α × RSt} (h : GetsF T F cells g) {A : Rep α} (hA : ∀ (R : Nat → Prop) (w : World) (s : RSt), Bytes (s.getD []) → A.rd R w (cells (g s).1) (g s).1) : Gets A T F g := by
  intro R r s w h1 h2 h3
  exact (h R r s w h1 h2).mono fun e w' ⟨he, h4, h5⟩ => ⟨_, he, hA _ _ s h1.bytes, h4, h5⟩
section
variable {R : Nat → Prop} {r : Nat} {s : RSt} {w : World}
end
end Go.Proofs.Ytknpapcfhnhheaa

/- Numbers not too great: gavellaw05's up, niceName, niceSig. -/
namespace Go.Proofs.Ytknpapcfhnhheaa
open Go Go.RowKit Go.Gv


/-- numbers from 0 on, not too great -/
def upn (n : Int) : Int := within n 1099511627776
theorem upn_range (n : Int) : 0 ≤ upn n ∧ upn n < 1099511627776 := within_range n _ (by decide)
theorem upn_I (n : Int) : I64 (upn n) := by have := upn_range n; unfold I64; omega
def nicSt (x : St) : St := ⟨upn x.rp, upn x.cl, upn x.sq, x.h, x.tm, upn x.sb, upn x.mr⟩
def nicCm (x : Cm) : Cm := { x with cl := upn x.cl, sq := upn x.sq, ln := upn x.ln, sb := upn x.sb, mr := upn x.mr }
def nicCe (x : Ce) : Ce := ⟨nicCm x.c, x.l.map nicSt⟩
def nicPm (x : Pm) : Pm := ⟨upn x.rp, upn x.ep, x.fl, x.l.map nicCe, upn x.sb, upn x.mr⟩
def nicOp (x : Op) : Op := { x with ix := upn x.ix, pl := x.pl.take 256 }
def nicDn (x : Dn) : Dn := ⟨upn x.rp, upn x.ix, upn x.sb, upn x.mr⟩
def nicTb (x : Tb) : Tb := ⟨upn x.ix, x.l.map nicDn⟩
def nicBa (x : Ba) : Ba := ⟨upn x.ep, x.tm, x.ps.map nicPm, x.os.map nicOp, x.ts.map nicTb⟩
theorem nicSt_ok {x : St} (h : x.OK) : (nicSt x).OK := ⟨upn_I _, upn_I _, upn_I _, h.h, h.tm, upn_I _, upn_I _⟩
theorem nicDn_ok (x : Dn) : (nicDn x).OK := ⟨upn_I _, upn_I _, upn_I _, upn_I _⟩
theorem nicCm_ok {x : Cm} (h : x.OK) : (nicCm x).OK := ⟨⟨upn_I _, upn_I _, upn_I _, upn_I _, upn_I _⟩, h.2⟩
set_option maxHeartbeats 1000000 in
theorem up_any (n : Int) (w : World) (h : I64 n) : Calls Try.prog 92 #[.int .i64 n] w fun e w' => e = .returned (.int .i64 (upn n)) ∧ w = w' := by
 have HN := Lib.hid h
 clear h
 go_enter Try.func92, Try.ntmps92
 go_upto_region 1 with (fail)
 have HM0 := hid (Mod.refl (fun _ => False) w)
 go_upto_region 1 with (fail)
 refine wp_region_U 5 [3, 4, 2] [0, 1, 2] (fun a0 HA0 => ?_)
 have oe0 := ev HA0 0 rfl
 refine QSeq.pure rfl _ (fun E => ex_move rfl (E.v oe0)) ?_
 refine QSeq.go fun act E => ?_
 refine qc_callF (args := #[.int .i64 n, .int .i64 1099511627776]) rfl (wanted_none rfl) rfl Try.func13 (args2 (E.d 0 0) rfl) (Within_any n 1099511627776 (by decide) (by decide) HN.out _) ?_
 rintro e w2 ⟨rfl, hw2⟩
 obtain rfl : w = w2 := by first | exact hw2 | exact hw2.symm
 refine ⟨_, rfl, ?_⟩
 clear act E
 refine QSeq.pure rfl _ (fun E => ex_assign rfl (E.d 1 0)) ?_
 refine QSeq.nil (t' := [_, _, _]) rfl ?_
 obtain rfl := HA0.out
 clear HA0 oe0
 simp only [pz, Act.put, List.setIfInBounds_toArray, List.set_cons_zero, List.set_cons_succ]
 go_wp2
 go_ret
 exact ⟨rfl, rfl⟩
set_option maxHeartbeats 1000000 in
theorem niceName_any (a b : Int) (w : World) (ha : I64 a) (hb : I64 b) : Calls Try.prog 100 #[.agg #[.int .i64 a, .int .i64 b]] w fun e w' => e = .returned (.agg #[.int .i64 (upn a), .int .i64 (upn b)]) ∧ Mod (fun _ => False) w w' := by
 have HA := Lib.hid ha
 have HB := Lib.hid hb
 clear ha hb
 go_enter Try.func100, Try.ntmps100
 go_upto_region 1 with (fail)
 obtain ⟨w1, hw1⟩ : ∃ zz, zz = ((w.alloc (.cells #[.int .i64 a, .int .i64 b] 23)).alloc (.cells #[.int .i64 0, .int .i64 0] 23)) := ⟨_, rfl⟩
 change Code.wp _ _ _ _ ((w.alloc (.cells #[.int .i64 a, .int .i64 b] 23)).alloc (.cells #[.int .i64 0, .int .i64 0] 23))
 rw [← hw1]
 have HB1 := hid (show Cs w1 (w.heap.size) #[.int .i64 a, .int .i64 b] 23 by rw [hw1]; exact (Cs.new _ _ _).alloc _)
 have HB2 := hid (show Cs w1 (w.heap.size + 1) #[.int .i64 0, .int .i64 0] 23 by rw [hw1]; exact Cs_newN _ _ _ (by simp))
 have hm : Mod (fun _ => False) w w1 := by rw [hw1]; exact ((Mod.refl _ _).alloc _).alloc _
 have HM0 := hid (show Mod (fun _ => False) w w1 from hm.mono (fun _ _ h => h.elim))
 have hs1 : w1.heap.size = w.heap.size + 2 := by rw [hw1]; simp
 clear hw1 hm
 go_upto_region 1 with (fail)
 generalize ha0 : Act.mk _ _ = a0
 have oe1 : a0.eval (.tmp 1) = .pointer (some ⟨w.heap.size, 0, none⟩) := by rw [← ha0]; rfl
 have oe2 : a0.eval (.tmp 2) = .pointer (some ⟨w.heap.size + 1, 0, none⟩) := by rw [← ha0]; rfl
 have hsz0 : a0.tmps.size = 10 := by rw [← ha0]; rfl
 have HA0 := hid ha0
 clear ha0
 refine wp_region_Q1 10 hsz0 [3, 4, 5, 6, 7, 8, 9, 17] (fun k => (k = w.heap.size + 1)) (fun k j => (k = 0 ∧ ((j = w.heap.size + 1)))) (fun _ _ h => h.2) [qi (.pointer (some ⟨w.heap.size, 0, none⟩)), qi (.int .i64 a), qi (.int .i64 (upn a)), qi (.pointer (some ⟨w.heap.size, 1, none⟩)), qi (.int .i64 b), qi (.int .i64 (upn b)), qi (.agg #[.int .i64 (upn a), .int .i64 (upn b)]), qv 0] ⟨qi_stable, qi_stable, qi_stable, qi_stable, qi_stable, qi_stable, qi_stable, qv_stable, trivial⟩ [7] ⟨?_, ?_, ?_, ?_, ?_, ?_, ?_, ?_, trivial⟩ ?_
 ·exact stq (fun E => ex_field rfl Try.underlying23 rfl (by kernel_rfl) (E.v oe1))
 ·exact stq (fun E => ex_load1 rfl Try.underlying3 rfl (E.d 0) (Cs.lit1 (HB1.out.mod E.m (by intro h2; omega)) rfl))
 ·refine stepq_env rfl rfl rfl fun _ _ _ _ _ _ _ _ _ hd _ _ => ?_
  have h1 := hd ⟨1, .data⟩ (by simp) rfl _ rfl
  refine qe_callF (args := #[.int .i64 a]) rfl (wanted_none rfl) rfl Try.func92 (args1 h1) (up_any a _ HA.out) ?_
  rintro e w2 ⟨rfl, rfl⟩
  exact ⟨_, rfl, QE.refl, rfl⟩
 ·exact stq (fun E => ex_field rfl Try.underlying23 rfl (by kernel_rfl) (E.v oe1))
 ·exact stq (fun E => ex_load1 rfl Try.underlying3 rfl (E.d 3) (Cs.lit1 (HB1.out.mod E.m (by intro h2; omega)) rfl))
 ·refine stepq_env rfl rfl rfl fun _ _ _ _ _ _ _ _ _ hd _ _ => ?_
  have h4 := hd ⟨4, .data⟩ (by simp) rfl _ rfl
  refine qe_callF (args := #[.int .i64 b]) rfl (wanted_none rfl) rfl Try.func92 (args1 h4) (up_any b _ HB.out) ?_
  rintro e w2 ⟨rfl, rfl⟩
  exact ⟨_, rfl, QE.refl, rfl⟩
 ·refine stepq_env rfl rfl rfl fun _ _ act _ _ _ _ _ _ hd _ _ => ?_
  have h2 := hd ⟨2, .data⟩ (by simp) rfl _ rfl
  have h5 := hd ⟨5, .data⟩ (by simp) rfl _ rfl
  refine qe_run rfl (wanted_none rfl) (ex_build rfl (z := [.int .i64 0, .int .i64 0]) (places := [(0, 1), (1, 1)]) (by kernel_rfl) (parts := [(0, .int .i64 (upn a)), (1, .int .i64 (upn b))]) (by simp only [List.map_toArray, List.map_cons, List.map_nil, show act.eval (.tmp 5) = _ from h2, show act.eval (.tmp 8) = _ from h5]; try rfl) (r := [.int .i64 (upn a), .int .i64 (upn b)]) (by rfl)) QE.refl ?_
  rfl
 ·exact stepq_chain rfl
 intro u1_0 hr
 have zu1_0 := hr.size
 have Cx1 := hid (hr.new (S := (fun k => (k = w.heap.size + 1))))
 have Hx2 := hid (HB2.out.mod hr (by intro h2; omega))
 clear HB2
 clear hr
 refine QChain.go fun Z act E => ?_
 refine qc_store rfl (wanted_none rfl) rfl Hx2.out (off := 0) (vs := [.int .i64 (upn a), .int .i64 (upn b)]) (by kernel_rfl) (by intro u hu; simp at hu; rcases hu with rfl | rfl <;> rfl) (by show 2 ≤ 2; decide) (E.v oe2) (by rw [show act.eval ((.tmp 9)) = _ from (E.d 6)]; rfl) ?_
 intro u1_1a qc0 hm
 have qB2 : Cs u1_1a (w.heap.size + 1) #[.int .i64 (upn a), .int .i64 (upn b)] 23 := by rw [show lay _ 0 _ = #[.int .i64 (upn a), .int .i64 (upn b)] from lay_whole #[.int .i64 0, .int .i64 0] [.int .i64 (upn a), .int .i64 (upn b)] rfl] at qc0; exact qc0
 clear qc0
 have zu1_1a := hm.size
 refine ⟨hm.mono (by intro k hk h; omega), (fun _ => rfl), ?_⟩
 intro u1_1 hr
 have zu1_1 := hr.size
 have Hx3 := hid (qB2.mod hr (by intro h2; omega))
 have Cx4 := hid (Cx1.out.goM hm hr (fun _ _ h => h))
 clear Cx1 hm hr Z act E qB2 Hx2
 refine QChain.nil fun vs hl hzz hrows hne => ?_
 obtain ⟨Z, hYZ, hZb, hV⟩ := hzz
 have f2 := fvi hV hl 2
 have f5 := fvi hV hl 5
 rw [show vs = [gw vs 0, gw vs 1, gw vs 2, gw vs 3, gw vs 4, gw vs 5, gw vs 6, gw vs 7] from (gw_eta hl).trans rfl]
 have ha0 := HA0.out
 subst ha0
 clear HA0 hV hYZ hZb hsz0 hrows hne oe1 oe2
 simp only [putAll, Act.put, List.setIfInBounds_toArray, List.set_cons_zero, List.set_cons_succ, List.set_nil, f2, f5]
 clear hl f2 f5
 go_wp2
 exact bodyPost_ret (results_cellA rfl _ _ (w.heap.size + 1) ([.int .i64 (upn a), .int .i64 (upn b)]) rfl (fun k u hu => by rw [Cs.cell Hx3.out]; simpa using hu) Try.underlying23 rfl (by kernel_rfl)) rfl ⟨rfl, (HM0.out.trans Cx4.out (by intro k h1 h2; omega))⟩
set_option maxHeartbeats 1000000 in
theorem niceSig_any (a b : Int) (w : World) (ha : I64 a) (hb : I64 b) : Calls Try.prog 94 #[.agg #[.int .i64 a, .int .i64 b]] w fun e w' => e = .returned (.agg #[.int .i64 (upn a), .int .i64 (upn b)]) ∧ Mod (fun _ => False) w w' := by
 have HA := Lib.hid ha
 have HB := Lib.hid hb
 clear ha hb
 go_enter Try.func94, Try.ntmps94
 go_upto_region 1 with (fail)
 obtain ⟨w1, hw1⟩ : ∃ zz, zz = ((w.alloc (.cells #[.int .i64 a, .int .i64 b] 28)).alloc (.cells #[.int .i64 0, .int .i64 0] 28)) := ⟨_, rfl⟩
 change Code.wp _ _ _ _ ((w.alloc (.cells #[.int .i64 a, .int .i64 b] 28)).alloc (.cells #[.int .i64 0, .int .i64 0] 28))
 rw [← hw1]
 have HB1 := hid (show Cs w1 (w.heap.size) #[.int .i64 a, .int .i64 b] 28 by rw [hw1]; exact (Cs.new _ _ _).alloc _)
 have HB2 := hid (show Cs w1 (w.heap.size + 1) #[.int .i64 0, .int .i64 0] 28 by rw [hw1]; exact Cs_newN _ _ _ (by simp))
 have hm : Mod (fun _ => False) w w1 := by rw [hw1]; exact ((Mod.refl _ _).alloc _).alloc _
 have HM0 := hid (show Mod (fun _ => False) w w1 from hm.mono (fun _ _ h => h.elim))
 have hs1 : w1.heap.size = w.heap.size + 2 := by rw [hw1]; simp
 clear hw1 hm
 go_upto_region 1 with (fail)
 generalize ha0 : Act.mk _ _ = a0
 have oe1 : a0.eval (.tmp 1) = .pointer (some ⟨w.heap.size, 0, none⟩) := by rw [← ha0]; rfl
 have oe2 : a0.eval (.tmp 2) = .pointer (some ⟨w.heap.size + 1, 0, none⟩) := by rw [← ha0]; rfl
 have hsz0 : a0.tmps.size = 10 := by rw [← ha0]; rfl
 have HA0 := hid ha0
 clear ha0
 refine wp_region_Q1 10 hsz0 [3, 4, 5, 6, 7, 8, 9, 17] (fun k => (k = w.heap.size + 1)) (fun k j => (k = 0 ∧ ((j = w.heap.size + 1)))) (fun _ _ h => h.2) [qi (.pointer (some ⟨w.heap.size, 0, none⟩)), qi (.int .i64 a), qi (.int .i64 (upn a)), qi (.pointer (some ⟨w.heap.size, 1, none⟩)), qi (.int .i64 b), qi (.int .i64 (upn b)), qi (.agg #[.int .i64 (upn a), .int .i64 (upn b)]), qv 0] ⟨qi_stable, qi_stable, qi_stable, qi_stable, qi_stable, qi_stable, qi_stable, qv_stable, trivial⟩ [7] ⟨?_, ?_, ?_, ?_, ?_, ?_, ?_, ?_, trivial⟩ ?_
 ·exact stq (fun E => ex_field rfl Try.underlying28 rfl (by kernel_rfl) (E.v oe1))
 ·exact stq (fun E => ex_load1 rfl Try.underlying3 rfl (E.d 0) (Cs.lit1 (HB1.out.mod E.m (by intro h2; omega)) rfl))
 ·refine stepq_env rfl rfl rfl fun _ _ _ _ _ _ _ _ _ hd _ _ => ?_
  have h1 := hd ⟨1, .data⟩ (by simp) rfl _ rfl
  refine qe_callF (args := #[.int .i64 a]) rfl (wanted_none rfl) rfl Try.func92 (args1 h1) (up_any a _ HA.out) ?_
  rintro e w2 ⟨rfl, rfl⟩
  exact ⟨_, rfl, QE.refl, rfl⟩
 ·exact stq (fun E => ex_field rfl Try.underlying28 rfl (by kernel_rfl) (E.v oe1))
 ·exact stq (fun E => ex_load1 rfl Try.underlying3 rfl (E.d 3) (Cs.lit1 (HB1.out.mod E.m (by intro h2; omega)) rfl))
 ·refine stepq_env rfl rfl rfl fun _ _ _ _ _ _ _ _ _ hd _ _ => ?_
  have h4 := hd ⟨4, .data⟩ (by simp) rfl _ rfl
  refine qe_callF (args := #[.int .i64 b]) rfl (wanted_none rfl) rfl Try.func92 (args1 h4) (up_any b _ HB.out) ?_
  rintro e w2 ⟨rfl, rfl⟩
  exact ⟨_, rfl, QE.refl, rfl⟩
 ·refine stepq_env rfl rfl rfl fun _ _ act _ _ _ _ _ _ hd _ _ => ?_
  have h2 := hd ⟨2, .data⟩ (by simp) rfl _ rfl
  have h5 := hd ⟨5, .data⟩ (by simp) rfl _ rfl
  refine qe_run rfl (wanted_none rfl) (ex_build rfl (z := [.int .i64 0, .int .i64 0]) (places := [(0, 1), (1, 1)]) (by kernel_rfl) (parts := [(0, .int .i64 (upn a)), (1, .int .i64 (upn b))]) (by simp only [List.map_toArray, List.map_cons, List.map_nil, show act.eval (.tmp 5) = _ from h2, show act.eval (.tmp 8) = _ from h5]; try rfl) (r := [.int .i64 (upn a), .int .i64 (upn b)]) (by rfl)) QE.refl ?_
  rfl
 ·exact stepq_chain rfl
 intro u1_0 hr
 have zu1_0 := hr.size
 have Cx1 := hid (hr.new (S := (fun k => (k = w.heap.size + 1))))
 have Hx2 := hid (HB2.out.mod hr (by intro h2; omega))
 clear HB2
 clear hr
 refine QChain.go fun Z act E => ?_
 refine qc_store rfl (wanted_none rfl) rfl Hx2.out (off := 0) (vs := [.int .i64 (upn a), .int .i64 (upn b)]) (by kernel_rfl) (by intro u hu; simp at hu; rcases hu with rfl | rfl <;> rfl) (by show 2 ≤ 2; decide) (E.v oe2) (by rw [show act.eval ((.tmp 9)) = _ from (E.d 6)]; rfl) ?_
 intro u1_1a qc0 hm
 have qB2 : Cs u1_1a (w.heap.size + 1) #[.int .i64 (upn a), .int .i64 (upn b)] 28 := by rw [show lay _ 0 _ = #[.int .i64 (upn a), .int .i64 (upn b)] from lay_whole #[.int .i64 0, .int .i64 0] [.int .i64 (upn a), .int .i64 (upn b)] rfl] at qc0; exact qc0
 clear qc0
 have zu1_1a := hm.size
 refine ⟨hm.mono (by intro k hk h; omega), (fun _ => rfl), ?_⟩
 intro u1_1 hr
 have zu1_1 := hr.size
 have Hx3 := hid (qB2.mod hr (by intro h2; omega))
 have Cx4 := hid (Cx1.out.goM hm hr (fun _ _ h => h))
 clear Cx1 hm hr Z act E qB2 Hx2
 refine QChain.nil fun vs hl hzz hrows hne => ?_
 obtain ⟨Z, hYZ, hZb, hV⟩ := hzz
 have f2 := fvi hV hl 2
 have f5 := fvi hV hl 5
 rw [show vs = [gw vs 0, gw vs 1, gw vs 2, gw vs 3, gw vs 4, gw vs 5, gw vs 6, gw vs 7] from (gw_eta hl).trans rfl]
 have ha0 := HA0.out
 subst ha0
 clear HA0 hV hYZ hZb hsz0 hrows hne oe1 oe2
 simp only [putAll, Act.put, List.setIfInBounds_toArray, List.set_cons_zero, List.set_cons_succ, List.set_nil, f2, f5]
 clear hl f2 f5
 go_wp2
 exact bodyPost_ret (results_cellA rfl _ _ (w.heap.size + 1) ([.int .i64 (upn a), .int .i64 (upn b)]) rfl (fun k u hu => by rw [Cs.cell Hx3.out]; simpa using hu) Try.underlying28 rfl (by kernel_rfl)) rfl ⟨rfl, (HM0.out.trans Cx4.out (by intro k h1 h2; omega))⟩
end Go.Proofs.Ytknpapcfhnhheaa

/- Certificates not too great: gavellaw05's nice. -/
namespace Go.Proofs.Ytknpapcfhnhheaa
open Go Go.RowKit Go.Gv


/-- a function that gives a thing anew, its numbers not too great; P: what is asked of the thing -/
def NicR {α : Type} (A : Rep α) (P : α → Prop) (F : FuncId) (f : α → α) : Prop := ∀ (R2 : Nat → Prop) (x : α) (cs : List Value) (w : World), A.rd R2 w cs x → (∀ k, R2 k → k < w.heap.size) → P x →
 Calls Try.prog F #[.agg cs.toArray] w fun e w' => ∃ cs', e = .returned (.agg cs'.toArray) ∧ A.rd (fun k => R2 k ∨ New w w' k) w' cs' (f x) ∧ Mod (fun _ => False) w w'
def fewCe (x : Ce) : Prop := x.l.length ≤ 1000
def fewPm (x : Pm) : Prop := x.l.length ≤ 1000 ∧ ∀ y ∈ x.l, fewCe y
theorem lay_nm (c : Cm) (v : Value) (a b : Int) : lay (c.cells ++ [v]).toArray 0 [.int .i64 a, .int .i64 b] = (Cm.cells { c with cl := a, sq := b } ++ [v]).toArray := by simp [lay, Cm.cells]
theorem lay_ln (c : Cm) (v : Value) (a : Int) (hl : c.h.length = 32) : lay (c.cells ++ [v]).toArray 34 [.int .i64 a] = (Cm.cells { c with ln := a } ++ [v]).toArray := by
 simp [lay, Cm.cells, List.take_append, List.drop_append, hl]
theorem lay_sg (c : Cm) (v : Value) (a b : Int) (hl : c.h.length = 32) : lay (c.cells ++ [v]).toArray 35 [.int .i64 a, .int .i64 b] = (Cm.cells { c with sb := a, mr := b } ++ [v]).toArray := by
 simp [lay, Cm.cells, List.take_append, List.drop_append, hl, (List.take_of_length_le (by simp [hl]) : (c.h.map bv).take 33 = c.h.map bv), (List.drop_of_length_le (by simp [hl]) : (c.h.map bv).drop 35 = [])]
theorem lay_srp (x : St) (a : Int) : lay x.cells.toArray 0 [.int .i64 a] = (St.cells { x with rp := a }).toArray := by simp [lay]
theorem lay_snm (x : St) (a b : Int) : lay x.cells.toArray 1 [.int .i64 a, .int .i64 b] = (St.cells { x with cl := a, sq := b }).toArray := by simp [lay]
theorem lay_ssg (x : St) (a b : Int) (hl : x.h.length = 32) : lay x.cells.toArray 36 [.int .i64 a, .int .i64 b] = (St.cells { x with sb := a, mr := b }).toArray := by
 simp [lay, List.take_append, List.drop_append, hl, (List.take_of_length_le (by simp [hl]) : (x.h.map bv).take 33 = x.h.map bv), (List.drop_of_length_le (by simp [hl]) : (x.h.map bv).drop 35 = [])]
theorem upto_getE {α : Type} {f : α → α} {k : Nat} {l : List α} {y : α} (h : l[k]? = some y) : (upto f k l)[k]? = some y := by
 obtain ⟨h1, h2⟩ := List.getElem?_eq_some_iff.1 h
 rw [upto_get h1, h2]
theorem upto_setE {α : Type} {f : α → α} {k : Nat} {l : List α} {y : α} (h : l[k]? = some y) : (upto f k l).set k (f y) = upto f (k + 1) l := by
 obtain ⟨h1, h2⟩ := List.getElem?_eq_some_iff.1 h
 rw [← h2, upto_set h1]

theorem cm_nm {w : World} {g : Nat} {c : Cm} {v : Value} {T : TypeId} (h : Cs w g (c.cells ++ [v]).toArray T) : ∀ j u, ([.int .i64 c.cl, .int .i64 c.sq] : List Value)[j]? = some u → w.cell? ⟨g, 0 + j, none⟩ = some u := Cs.litA h rfl
theorem cm_ln {w : World} {g : Nat} {c : Cm} {v : Value} {T : TypeId} (h : Cs w g (c.cells ++ [v]).toArray T) (hl : c.h.length = 32) : w.cell? ⟨g, 34, none⟩ = some (.int .i64 c.ln) := Cs.lit1 h (by simp [Cm.cells, List.getElem?_append, hl])
theorem cm_sg {w : World} {g : Nat} {c : Cm} {v : Value} {T : TypeId} (h : Cs w g (c.cells ++ [v]).toArray T) (hl : c.h.length = 32) : ∀ j u, ([.int .i64 c.sb, .int .i64 c.mr] : List Value)[j]? = some u → w.cell? ⟨g, 35 + j, none⟩ = some u := Cs.litA h (by simp [Cm.cells, List.drop_append, hl, (List.drop_of_length_le (by simp [hl]) : (c.h.map bv).drop 33 = [])])
theorem cm_l {w : World} {g : Nat} {c : Cm} {v : Value} {T : TypeId} (h : Cs w g (c.cells ++ [v]).toArray T) (hl : c.h.length = 32) : w.cell? ⟨g, 37, none⟩ = some v := Cs.lit1 h (by simp [Cm.cells, List.getElem?_append, hl])
set_option maxHeartbeats 4000000 in
theorem nice_c : NicR CeR fewCe 53 nicCe := by
 intro R2 x cs w hx hB2 hP
 obtain ⟨v_l, rfl, hok, hs0⟩ := hx
 obtain ⟨ao, cap, rfl⟩ := hs0.shape
 have HS := Lib.hid hs0
 have HBT := Lib.hid hB2
 have HOK := Lib.hid hok
 have HP := Lib.hid hP
 clear hs0 hB2 hok hP
 go_enter Try.func53, Try.ntmps53
 go_upto_region 1 with (fail)
 obtain ⟨w1, hw1⟩ : ∃ zz, zz = ((w.alloc (.cells (x.cells (.slice ao x.l.length cap) : List Value).toArray 52)).alloc (.cells #[.int .i64 0, .int .i64 0, .int .u8 0, .int .u8 0, .int .u8 0, .int .u8 0, .int .u8 0, .int .u8 0, .int .u8 0, .int .u8 0, .int .u8 0, .int .u8 0, .int .u8 0, .int .u8 0, .int .u8 0, .int .u8 0, .int .u8 0, .int .u8 0, .int .u8 0, .int .u8 0, .int .u8 0, .int .u8 0, .int .u8 0, .int .u8 0, .int .u8 0, .int .u8 0, .int .u8 0, .int .u8 0, .int .u8 0, .int .u8 0, .int .u8 0, .int .u8 0, .int .u8 0, .int .u8 0, .int .i64 0, .int .i64 0, .int .i64 0, .slice none 0 0] 52)) := ⟨_, rfl⟩
 change Code.wp _ _ _ _ ((w.alloc (.cells (x.cells (.slice ao x.l.length cap) : List Value).toArray 52)).alloc (.cells #[.int .i64 0, .int .i64 0, .int .u8 0, .int .u8 0, .int .u8 0, .int .u8 0, .int .u8 0, .int .u8 0, .int .u8 0, .int .u8 0, .int .u8 0, .int .u8 0, .int .u8 0, .int .u8 0, .int .u8 0, .int .u8 0, .int .u8 0, .int .u8 0, .int .u8 0, .int .u8 0, .int .u8 0, .int .u8 0, .int .u8 0, .int .u8 0, .int .u8 0, .int .u8 0, .int .u8 0, .int .u8 0, .int .u8 0, .int .u8 0, .int .u8 0, .int .u8 0, .int .u8 0, .int .u8 0, .int .i64 0, .int .i64 0, .int .i64 0, .slice none 0 0] 52))
 rw [← hw1]
 have HB1 := hid (show Cs w1 (w.heap.size) (x.cells (.slice ao x.l.length cap) : List Value).toArray 52 by rw [hw1]; exact (Cs.new _ _ _).alloc _)
 have HB2 := hid (show Cs w1 (w.heap.size + 1) #[.int .i64 0, .int .i64 0, .int .u8 0, .int .u8 0, .int .u8 0, .int .u8 0, .int .u8 0, .int .u8 0, .int .u8 0, .int .u8 0, .int .u8 0, .int .u8 0, .int .u8 0, .int .u8 0, .int .u8 0, .int .u8 0, .int .u8 0, .int .u8 0, .int .u8 0, .int .u8 0, .int .u8 0, .int .u8 0, .int .u8 0, .int .u8 0, .int .u8 0, .int .u8 0, .int .u8 0, .int .u8 0, .int .u8 0, .int .u8 0, .int .u8 0, .int .u8 0, .int .u8 0, .int .u8 0, .int .i64 0, .int .i64 0, .int .i64 0, .slice none 0 0] 52 by rw [hw1]; exact Cs_newN _ _ _ (by simp))
 have hm : Mod (fun _ => False) w w1 := by rw [hw1]; exact ((Mod.refl _ _).alloc _).alloc _
 have HM0 := hid (show Mod (fun _ => False) w w1 from hm.mono (fun _ _ h => h.elim))
 have hs1 : w1.heap.size = w.heap.size + 2 := by rw [hw1]; simp
 have Hx1 := hid (HS.out.mod hm (fun _ _ h => h))
 clear HS
 clear hw1 hm
 go_upto_region 1 with (fail)
 generalize ha0 : Act.mk _ _ = a0
 have oe1 : a0.eval (.tmp 1) = .pointer (some ⟨w.heap.size, 0, none⟩) := by rw [← ha0]; rfl
 have hsz0 : a0.tmps.size = 57 := by rw [← ha0]; rfl
 have HA0 := hid ha0
 clear ha0
 refine wp_region_Q1 57 hsz0 [5, 6, 7, 8, 9, 10, 11, 12, 13, 14, 15, 16, 17, 18, 71, 19, 20, 74, 21, 22, 77] (fun k => (k = w.heap.size)) (fun k j => (k = 0 ∧ ((j = w.heap.size))) ∨ (k = 1 ∧ ((j = w.heap.size))) ∨ (k = 2 ∧ ((j = w.heap.size)))) (by intro k j h; (try dsimp only at h ⊢); omega) [qi (.pointer (some ⟨w.heap.size, 0, none⟩)), qi (.pointer (some ⟨w.heap.size, 0, none⟩)), qi (.agg #[.int .i64 x.c.cl, .int .i64 x.c.sq]), qi (.agg #[.int .i64 (upn x.c.cl), .int .i64 (upn x.c.sq)]), qi (.pointer (some ⟨w.heap.size, 0, none⟩)), qi (.pointer (some ⟨w.heap.size, 34, none⟩)), qi (.int .i64 x.c.ln), qi (.int .i64 (upn x.c.ln)), qi (.pointer (some ⟨w.heap.size, 0, none⟩)), qi (.pointer (some ⟨w.heap.size, 35, none⟩)), qi (.agg #[.int .i64 x.c.sb, .int .i64 x.c.mr]), qi (.agg #[.int .i64 (upn x.c.sb), .int .i64 (upn x.c.mr)]), qi (.pointer (some ⟨w.heap.size, 0, none⟩)), qi (.pointer (some ⟨w.heap.size, 0, none⟩)), qv 0, qi (.pointer (some ⟨w.heap.size, 0, none⟩)), qi (.pointer (some ⟨w.heap.size, 34, none⟩)), qv 1, qi (.pointer (some ⟨w.heap.size, 0, none⟩)), qi (.pointer (some ⟨w.heap.size, 35, none⟩)), qv 2] ⟨qi_stable, qi_stable, qi_stable, qi_stable, qi_stable, qi_stable, qi_stable, qi_stable, qi_stable, qi_stable, qi_stable, qi_stable, qi_stable, qi_stable, qv_stable, qi_stable, qi_stable, qv_stable, qi_stable, qi_stable, qv_stable, trivial⟩ [14, 17, 20] ⟨?_, ?_, ?_, ?_, ?_, ?_, ?_, ?_, ?_, ?_, ?_, ?_, ?_, ?_, ?_, ?_, ?_, ?_, ?_, ?_, ?_, trivial⟩ ?_
 ·exact stq (fun E => ex_field rfl Try.underlying52 rfl (by kernel_rfl) (E.v oe1))
 ·exact stq (fun E => ex_field rfl Try.underlying49 rfl (by kernel_rfl) (E.d 0))
 ·refine stepq_env rfl rfl rfl fun _ _ _ _ _ _ hm0 _ _ hd hub _ => ?_
  have h1 := hd ⟨1, .data⟩ (by simp) rfl _ rfl
  refine qe_run rfl (wanted_none rfl) (ex_loadA rfl Try.underlying23 rfl (off := 0) (cs := [.int .i64 x.c.cl, .int .i64 x.c.sq]) (by kernel_rfl) h1 (cm_nm (HB1.out.mod hm0 (by intro h2; have hu := hub 0 14 rfl (by kernel_rfl); rcases h2 with ⟨h0, kk, hk, h2⟩ | h2 <;> omega)))) QE.refl ?_
  rfl
 ·refine stepq_env rfl rfl rfl fun _ _ _ _ _ _ _ _ _ hd _ _ => ?_
  have h2 := hd ⟨2, .data⟩ (by simp) rfl _ rfl
  refine qe_callF (args := #[.agg #[.int .i64 x.c.cl, .int .i64 x.c.sq]]) rfl (wanted_none rfl) rfl Try.func100 (args1 h2) (niceName_any x.c.cl x.c.sq _ HOK.out.1.1 HOK.out.1.2.1) ?_
  rintro e w2 ⟨rfl, hm2⟩
  exact ⟨_, rfl, QE.still hm2, rfl⟩
 ·exact stq (fun E => ex_field rfl Try.underlying52 rfl (by kernel_rfl) (E.v oe1))
 ·exact stq (fun E => ex_field rfl Try.underlying49 rfl (by kernel_rfl) (E.d 4))
 ·refine stepq_env rfl rfl rfl fun _ _ _ _ _ _ hm0 _ _ hd hub _ => ?_
  have h5 := hd ⟨5, .data⟩ (by simp) rfl _ rfl
  refine qe_run rfl (wanted_none rfl) (ex_load1 rfl Try.underlying3 rfl h5 (cm_ln (HB1.out.mod hm0 (by intro h2; have hu := hub 0 14 rfl (by kernel_rfl); rcases h2 with ⟨h0, kk, hk, h2⟩ | h2 <;> omega)) HOK.out.2.1)) QE.refl ?_
  rfl
 ·refine stepq_env rfl rfl rfl fun _ _ _ _ _ _ _ _ _ hd _ _ => ?_
  have h6 := hd ⟨6, .data⟩ (by simp) rfl _ rfl
  refine qe_callF (args := #[.int .i64 x.c.ln]) rfl (wanted_none rfl) rfl Try.func92 (args1 h6) (up_any x.c.ln _ HOK.out.1.2.2.1) ?_
  rintro e w2 ⟨rfl, rfl⟩
  exact ⟨_, rfl, QE.refl, rfl⟩
 ·exact stq (fun E => ex_field rfl Try.underlying52 rfl (by kernel_rfl) (E.v oe1))
 ·exact stq (fun E => ex_field rfl Try.underlying49 rfl (by kernel_rfl) (E.d 8))
 ·refine stepq_env rfl rfl rfl fun _ _ _ _ _ _ hm0 _ _ hd hub _ => ?_
  have h9 := hd ⟨9, .data⟩ (by simp) rfl _ rfl
  refine qe_run rfl (wanted_none rfl) (ex_loadA rfl Try.underlying28 rfl (off := 35) (cs := [.int .i64 x.c.sb, .int .i64 x.c.mr]) (by kernel_rfl) h9 (cm_sg (HB1.out.mod hm0 (by intro h2; have hu := hub 0 14 rfl (by kernel_rfl); rcases h2 with ⟨h0, kk, hk, h2⟩ | h2 <;> omega)) HOK.out.2.1)) QE.refl ?_
  rfl
 ·refine stepq_env rfl rfl rfl fun _ _ _ _ _ _ _ _ _ hd _ _ => ?_
  have h10 := hd ⟨10, .data⟩ (by simp) rfl _ rfl
  refine qe_callF (args := #[.agg #[.int .i64 x.c.sb, .int .i64 x.c.mr]]) rfl (wanted_none rfl) rfl Try.func94 (args1 h10) (niceSig_any x.c.sb x.c.mr _ HOK.out.1.2.2.2.1 HOK.out.1.2.2.2.2) ?_
  rintro e w2 ⟨rfl, hm2⟩
  exact ⟨_, rfl, QE.still hm2, rfl⟩
 ·exact stq (fun E => ex_field rfl Try.underlying52 rfl (by kernel_rfl) (E.v oe1))
 ·exact stq (fun E => ex_field rfl Try.underlying49 rfl (by kernel_rfl) (E.d 12))
 ·exact stepq_chain rfl
 ·exact stq (fun E => ex_field rfl Try.underlying52 rfl (by kernel_rfl) (E.v oe1))
 ·exact stq (fun E => ex_field rfl Try.underlying49 rfl (by kernel_rfl) (E.d 15))
 ·exact stepq_chain rfl
 ·exact stq (fun E => ex_field rfl Try.underlying52 rfl (by kernel_rfl) (E.v oe1))
 ·exact stq (fun E => ex_field rfl Try.underlying49 rfl (by kernel_rfl) (E.d 18))
 ·exact stepq_chain rfl
 intro u1_0 hr
 have zu1_0 := hr.size
 have Cx2 := hid (hr.new (S := (fun k => (k = w.heap.size))))
 have Hx3 := hid (HB1.out.mod hr (by intro h2; omega))
 clear HB1
 clear hr
 refine QChain.go fun Z act E => ?_
 refine qc_store rfl (wanted_none rfl) rfl Hx3.out (off := 0) (vs := [.int .i64 (upn x.c.cl), .int .i64 (upn x.c.sq)]) (by kernel_rfl) (by intro u hu; simp at hu; rcases hu with rfl | rfl <;> rfl) (by rw [List.size_toArray, List.length_append, Cm.len (by exact HOK.out.2.1)]; simp only [List.length_cons, List.length_nil]; omega) (E.d 13) (by rw [show act.eval ((.tmp 8)) = _ from (E.d 3)]; rfl) ?_
 intro u1_1a qc0 hm
 have qB1 : Cs u1_1a (w.heap.size) ((({ x.c with cl := upn x.c.cl, sq := upn x.c.sq } : Cm)).cells ++ [Value.slice ao x.l.length cap] : List Value).toArray 52 := by rw [show lay _ 0 _ = ((({ x.c with cl := upn x.c.cl, sq := upn x.c.sq } : Cm)).cells ++ [Value.slice ao x.l.length cap] : List Value).toArray from lay_nm x.c _ _ _] at qc0; exact qc0
 clear qc0
 have zu1_1a := hm.size
 refine ⟨hm.mono (by intro k hk h; omega), (fun _ => rfl), ?_⟩
 intro u1_1 hr
 have zu1_1 := hr.size
 have Hx4 := hid (qB1.mod hr (by intro h2; omega))
 have Cx5 := hid (Cx2.out.goM hm hr (fun _ _ h => h))
 clear Cx2 hm hr Z act E qB1 Hx3
 refine QChain.go fun Z act E => ?_
 refine qc_store rfl (wanted_none rfl) rfl Hx4.out (off := 34) (vs := [.int .i64 (upn x.c.ln)]) (by kernel_rfl) (by intro u hu; simp at hu; subst hu; rfl) (by rw [List.size_toArray, List.length_append, Cm.len (by exact HOK.out.2.1)]; simp only [List.length_cons, List.length_nil]; omega) (E.d 16) (by rw [show act.eval ((.tmp 12)) = _ from (E.d 7)]; rfl) ?_
 intro u1_2a qc0 hm
 have qB1 : Cs u1_2a (w.heap.size) ((({ x.c with cl := upn x.c.cl, sq := upn x.c.sq, ln := upn x.c.ln } : Cm)).cells ++ [Value.slice ao x.l.length cap] : List Value).toArray 52 := by rw [show lay _ 34 _ = ((({ x.c with cl := upn x.c.cl, sq := upn x.c.sq, ln := upn x.c.ln } : Cm)).cells ++ [Value.slice ao x.l.length cap] : List Value).toArray from lay_ln ({ x.c with cl := upn x.c.cl, sq := upn x.c.sq } : Cm) _ _ HOK.out.2.1] at qc0; exact qc0
 clear qc0
 have zu1_2a := hm.size
 refine ⟨hm.mono (by intro k hk h; omega), (fun _ => rfl), ?_⟩
 intro u1_2 hr
 have zu1_2 := hr.size
 have Hx6 := hid (qB1.mod hr (by intro h2; omega))
 have Cx7 := hid (Cx5.out.goM hm hr (fun _ _ h => h))
 clear Cx5 hm hr Z act E qB1 Hx4
 refine QChain.go fun Z act E => ?_
 refine qc_store rfl (wanted_none rfl) rfl Hx6.out (off := 35) (vs := [.int .i64 (upn x.c.sb), .int .i64 (upn x.c.mr)]) (by kernel_rfl) (by intro u hu; simp at hu; rcases hu with rfl | rfl <;> rfl) (by rw [List.size_toArray, List.length_append, Cm.len (by exact HOK.out.2.1)]; simp only [List.length_cons, List.length_nil]; omega) (E.d 19) (by rw [show act.eval ((.tmp 16)) = _ from (E.d 11)]; rfl) ?_
 intro u1_3a qc0 hm
 have qB1 : Cs u1_3a (w.heap.size) (((nicCm x.c)).cells ++ [Value.slice ao x.l.length cap] : List Value).toArray 52 := by rw [show lay _ 35 _ = (((nicCm x.c)).cells ++ [Value.slice ao x.l.length cap] : List Value).toArray from lay_sg ({ x.c with cl := upn x.c.cl, sq := upn x.c.sq, ln := upn x.c.ln } : Cm) _ _ _ HOK.out.2.1] at qc0; exact qc0
 clear qc0
 have zu1_3a := hm.size
 refine ⟨hm.mono (by intro k hk h; omega), (fun _ => rfl), ?_⟩
 intro u1_3 hr
 have zu1_3 := hr.size
 have Hx8 := hid (qB1.mod hr (by intro h2; omega))
 have Cx9 := hid (Cx7.out.goM hm hr (fun _ _ h => h))
 clear Cx7 hm hr Z act E qB1 Hx6
 refine QChain.nil fun vs hl hzz hrows hne => ?_
 obtain ⟨Z, hYZ, hZb, hV⟩ := hzz
 have f3 := fvi hV hl 3
 have f7 := fvi hV hl 7
 have f11 := fvi hV hl 11
 rw [show vs = [gw vs 0, gw vs 1, gw vs 2, gw vs 3, gw vs 4, gw vs 5, gw vs 6, gw vs 7, gw vs 8, gw vs 9, gw vs 10, gw vs 11, gw vs 12, gw vs 13, gw vs 14, gw vs 15, gw vs 16, gw vs 17, gw vs 18, gw vs 19, gw vs 20] from (gw_eta hl).trans rfl]
 have ha0 := HA0.out
 subst ha0
 clear HA0 hV hYZ hZb hsz0 hrows hne oe1
 simp only [putAll, Act.put, List.setIfInBounds_toArray, List.set_cons_zero, List.set_cons_succ, List.set_nil, f3, f7, f11]
 clear hl f3 f7 f11
 go_upto_region 2 with (fail)
 refine wp_region_U 57 [23, 24, 25, 26, 61] [0, 1, 2, 3, 4] (fun a0 HA0 => ?_)
 have oe1 := ev HA0 1 rfl
 refine QSeq.pure rfl (.pointer (some ⟨w.heap.size, 37, none⟩)) (fun E => ex_field rfl Try.underlying52 rfl (by kernel_rfl) (E.v oe1)) ?_
 refine QSeq.pure rfl (.slice ao x.l.length cap) (fun E => ex_load1 rfl Try.underlying50 rfl (E.d 0 0) (cm_l Hx8.out HOK.out.2.1)) ?_
 refine QSeq.call rfl rfl Try.func101 (Copy_St _ _ _ _ (Hx1.out.mod Cx9.out (sB HBT)) (by intro k h1; have hb := HBT.out k h1; omega) (Nat.le_trans HP.out (by decide))) (fun E => args1 (E.d 1 0)) ?_
 rintro e u2_2 ⟨v', rfl, qacc, hm⟩
 obtain ⟨ao', cap', rfl⟩ := qacc.shape
 refine ⟨_, rfl, ?_⟩
 have Hx10 := hid (qacc.widen (R' := (fun k => (New u1_3 u2_2 k))) (E' := (fun k => (R2 k))) (fun _ h => h) (fun _ h => h))
 have zu2_2 := hm.size
 have Cx11 := hid (show Mod (fun _ => False) u1_3 u2_2 from hm)
 clear hm
 clear qacc
 refine QSeq.pure rfl (.pointer (some ⟨w.heap.size, 37, none⟩)) (fun E => ex_field rfl Try.underlying52 rfl (by kernel_rfl) (E.v oe1)) ?_
 refine QSeq.go fun act E => ?_
 refine qc_store rfl (wanted_none rfl) rfl (Hx8.out.mod Cx11.out (fun h => h)) (off := 37) (vs := [Value.slice ao' x.l.length cap']) (by kernel_rfl) one1 (by rw [List.size_toArray, List.length_append, Cm.len (by exact HOK.out.2.1)]; simp only [List.length_cons, List.length_nil]; omega) (E.d 3 0) (ec (E.d 2 1)) ?_
 intro u2_4 qc0 hm
 have qB1 := qc0.eqv (b := (((nicCm x.c)).cells ++ [Value.slice ao' x.l.length cap'] : List Value).toArray) (lay_l (nicCm x.c) _ _ HOK.out.2.1)
 clear qc0
 have Hx12 := hid qB1
 have zu2_4 := hm.size
 have HMu2_4 := hid hm
 have Cx13 := hid (Mod.goS (S' := (fun k => (k = w.heap.size))) Cx11.out hm (fun _ h => h.elim) (by intro k h0 h2; exact h2))
 clear hm Cx11
 clear act E qB1 Hx8
 have Hx14 := hid (Hx10.out.mod HMu2_4.out (by intro k h1 h2; omega) (sB HBT))
 clear Hx10 HMu2_4
 refine QSeq.nil (t' := [_, _, _, _, _]) rfl ?_
 obtain rfl := HA0.out
 clear HA0 oe1
 simp only [pz, Act.put, List.setIfInBounds_toArray, List.set_cons_zero, List.set_cons_succ, List.set_nil]
 go_upto_region 3 with (fail)
 refine wp_region_U 57 [27, 28, 29, 30] [0, 1, 2, 3] (fun a0 HA0 => ?_)
 have oe1 := ev HA0 1 rfl
 refine QSeq.pure rfl (.pointer (some ⟨w.heap.size, 37, none⟩)) (fun E => ex_field rfl Try.underlying52 rfl (by kernel_rfl) (E.v oe1)) ?_
 refine QSeq.pure rfl (.slice ao' x.l.length cap') (fun E => ex_load1 rfl Try.underlying50 rfl (E.d 0 0) (cm_l Hx12.out HOK.out.2.1)) ?_
 refine QSeq.pure rfl (.int .i64 x.l.length) (fun E => ex_lenS rfl (E.d 1 0) Try.underlying50) ?_
 refine QSeq.pure rfl (.int .i64 0) (fun E => ex_move rfl rfl) ?_
 refine QSeq.nil (t' := [_, _, _, _]) rfl ?_
 obtain rfl := HA0.out
 clear HA0 oe1
 simp only [pz, Act.put, List.setIfInBounds_toArray, List.set_cons_zero, List.set_cons_succ]
 go_wp2
 go_loopw [30] (fun ti wr => ∃ k : Nat, ti = .int .i64 (k : Int) ∧ k ≤ x.l.length ∧ u2_4.heap.size ≤ wr.heap.size ∧ OwS StR 30 (fun k => (New u1_3 u2_2 k)) (fun k => (R2 k) ∨ (u2_4.heap.size ≤ k ∧ k < wr.heap.size)) wr (.slice ao' x.l.length cap') (upto nicSt k x.l) ∧ Cs wr (w.heap.size) (((nicCm x.c)).cells ++ [Value.slice ao' x.l.length cap'] : List Value).toArray 52 ∧ Cs wr (w.heap.size + 1) #[.int .i64 0, .int .i64 0, .int .u8 0, .int .u8 0, .int .u8 0, .int .u8 0, .int .u8 0, .int .u8 0, .int .u8 0, .int .u8 0, .int .u8 0, .int .u8 0, .int .u8 0, .int .u8 0, .int .u8 0, .int .u8 0, .int .u8 0, .int .u8 0, .int .u8 0, .int .u8 0, .int .u8 0, .int .u8 0, .int .u8 0, .int .u8 0, .int .u8 0, .int .u8 0, .int .u8 0, .int .u8 0, .int .u8 0, .int .u8 0, .int .u8 0, .int .u8 0, .int .u8 0, .int .u8 0, .int .i64 0, .int .i64 0, .int .i64 0, .slice none 0 0] 52 ∧ Mod (fun _ => False) w wr) (fun ti _ => x.l.length - (intOf ti).toNat)
 case atStart => exact ⟨0, rfl, Nat.zero_le _, Nat.le_refl _, by rw [upto_zero]; exact Hx14.out.widen (fun _ h => h) (by intro k h1; first | omega | exact h1.elim | exact Or.inl h1 | exact Or.inr (h1)), Hx12.out, ((HB2.out.mod Cx9.out (by intro h2; omega)).mod Cx13.out (by intro h2; omega)), ((HM0.out.trans Cx9.out (by intro k h1 h2; omega)).trans Cx13.out (by intro k h1 h2; omega))⟩
 case round =>
  obtain ⟨k1, rfl, hk, hz, ha, hk_0, hk_1, hm⟩ := hrel
  obtain ⟨wl1, rfl⟩ : ∃ x, x = wr := ⟨_, rfl⟩
  have HAL1 := Lib.hid ha
  have HKP1_0 := Lib.hid hk_0
  have HKP1_1 := Lib.hid hk_1
  have HML1 := Lib.hid hm
  clear ha hm hk_0 hk_1 Hx1 Hx12 HB2 HM0 Hx14
  by_cases hlt1 : k1 < x.l.length
  ·skip
   go_upto_region 4 with (fail)
   refine wp_region_U 57 [31] [0] (fun a0 HA0 => ?_)
   have oe29 := ev HA0 29 rfl
   have oe30 := ev HA0 30 rfl
   refine QSeq.pure rfl (.bool true) (fun E => ex_binE rfl (E.v oe30) (E.v oe29) (guard_ints _ _ _ _ _ _) (run_lss_i _ _ _ Try.underlying3) (congrArg Value.bool (decide_eq_true (by omega)))) ?_
   refine QSeq.nil (t' := [_]) rfl ?_
   obtain rfl := HA0.out
   clear HA0 oe29 oe30
   simp only [pz, Act.put, List.setIfInBounds_toArray, List.set_cons_zero, List.set_cons_succ]
   obtain ⟨y1, hy1⟩ : ∃ y, x.l[k1]? = some y := ⟨_, List.getElem?_eq_getElem hlt1⟩
   have HY1 := Lib.hid hy1
   clear hy1
   obtain ⟨g1, cs1, cur1, eao, hrg, hrd, hcs, -, -⟩ := HAL1.out.at (upto_getE (f := nicSt) HY1.out)
   subst eao
   obtain ⟨rfl, hok1⟩ := hrd
   have HOK1 := Lib.hid hok1
   clear hok1
   have HAT1 := hid (show CellsAt (fun k => (New u1_3 u2_2 k)) wl1 g1 (0 + k1 * 38) y1.cells from ⟨hrg, hcs⟩)
   clear hrg hcs
   go_upto_region 5 with (fail)
   refine wp_region_U 57 [32, 3] [0, 1] (fun a0 HA0 => ?_)
   have oe30 := ev HA0 30 rfl
   refine QSeq.pure rfl _ (fun E => ex_move rfl (E.v oe30)) ?_
   refine QSeq.pure rfl _ (fun E => ex_assign rfl (E.d 0 0)) ?_
   refine QSeq.nil (t' := [_, _]) rfl ?_
   obtain rfl := HA0.out
   clear HA0 oe30
   simp only [pz, Act.put, List.setIfInBounds_toArray, List.set_cons_zero, List.set_cons_succ]
   go_upto_region 6 with (fail)
   refine wp_region_U 57 [33, 34, 35, 36, 37, 4, 63] [0, 1, 2, 3, 4, 5, 6] (fun a0 HA0 => ?_)
   have oe1 := ev HA0 1 rfl
   have oe3 := ev HA0 3 rfl
   refine QSeq.pure rfl (.pointer (some ⟨w.heap.size, 37, none⟩)) (fun E => ex_field rfl Try.underlying52 rfl (by kernel_rfl) (E.v oe1)) ?_
   refine QSeq.pure rfl (.slice (some ⟨g1, 0, none⟩) x.l.length cap') (fun E => ex_load1 rfl Try.underlying50 rfl (E.d 0 0) (cm_l HKP1_0.out HOK.out.2.1)) ?_
   refine QSeq.pure rfl _ (fun E => ex_move rfl (E.v oe3)) ?_
   refine QSeq.pure rfl (.pointer (some ⟨g1, 0 + k1 * 38, none⟩)) (fun E => ex_idxS (i := k1) (s := 38) rfl Try.underlying50 (by kernel_rfl) (E.d 1 1) (E.d 2 0) (by omega)) ?_
   refine QSeq.pure rfl _ (fun E => ex_loadA rfl Try.underlying30 rfl (off := 0 + k1 * 38) (cs := y1.cells) (by rw [St.len HOK1.out]; kernel_rfl) (E.d 3 0) (fun j u hu => (HAT1.out).2 j u hu)) ?_
   refine QSeq.go fun act E => ?_
   refine qc_alloc rfl (wanted_none rfl) rfl (z := [.int .i64 0, .int .i64 0, .int .i64 0, .int .u8 0, .int .u8 0, .int .u8 0, .int .u8 0, .int .u8 0, .int .u8 0, .int .u8 0, .int .u8 0, .int .u8 0, .int .u8 0, .int .u8 0, .int .u8 0, .int .u8 0, .int .u8 0, .int .u8 0, .int .u8 0, .int .u8 0, .int .u8 0, .int .u8 0, .int .u8 0, .int .u8 0, .int .u8 0, .int .u8 0, .int .u8 0, .int .u8 0, .int .u8 0, .int .u8 0, .int .u8 0, .int .u8 0, .int .u8 0, .int .u8 0, .int .u8 0, .int .u64 0, .int .i64 0, .int .i64 0]) (by kernel_rfl) ?_
   intro u6_5 qB4 hm
   have zl6_5 := qB4.lt
   have Hx15 := hid qB4
   have zu6_5 := hm.size
   have Cx16 := hid (show Mod (fun _ => False) wl1 u6_5 from hm)
   clear hm
   clear act E qB4
   refine QSeq.go fun act E => ?_
   refine qc_store rfl (wanted_none rfl) rfl Hx15.out (off := 0) (vs := y1.cells) (by rw [St.len HOK1.out]; kernel_rfl) (St.one _) (by rw [St.len HOK1.out]; decide) (E.d 5 0) (ec (E.d 4 1)) ?_
   intro u6_6 qc0 hm
   have qB4 := qc0.eqv (b := (y1.cells : List Value).toArray) (lay_whole _ _ (by rw [St.len HOK1.out]; rfl))
   clear qc0
   have Hx17 := hid qB4
   have zu6_6 := hm.size
   have HMu6_6 := hid hm
   have Cx18 := hid (Mod.goS (S' := (fun _ => False)) Cx16.out hm (fun _ h => h) (by intro k h0 h2; omega))
   clear hm Cx16
   clear act E qB4 Hx15
   clear HMu6_6
   refine QSeq.nil (t' := [_, _, _, _, _, _, _]) rfl ?_
   obtain rfl := HA0.out
   clear HA0 oe1 oe3
   simp only [pz, Act.put, List.setIfInBounds_toArray, List.set_cons_zero, List.set_cons_succ, List.set_nil]
   clear HAT1
   go_upto_region 7 with (fail)
   generalize ha0 : Act.mk _ _ = a0
   have oe4 : a0.eval (.tmp 4) = .pointer (some ⟨wl1.heap.size, 0, none⟩) := by rw [← ha0]; rfl
   have hsz0 : a0.tmps.size = 57 := by rw [← ha0]; rfl
   have HA0 := hid ha0
   clear ha0
   refine wp_region_Q1 57 hsz0 [38, 39, 40, 41, 42, 43, 44, 45, 46, 47, 67, 48, 69, 49, 71] (fun k => (k = wl1.heap.size)) (fun k j => (k = 0 ∧ ((j = wl1.heap.size))) ∨ (k = 1 ∧ ((j = wl1.heap.size))) ∨ (k = 2 ∧ ((j = wl1.heap.size)))) (by intro k j h; (try dsimp only at h ⊢); omega) [qi (.pointer (some ⟨wl1.heap.size, 0, none⟩)), qi (.int .i64 y1.rp), qi (.int .i64 (upn y1.rp)), qi (.pointer (some ⟨wl1.heap.size, 1, none⟩)), qi (.agg #[.int .i64 y1.cl, .int .i64 y1.sq]), qi (.agg #[.int .i64 (upn y1.cl), .int .i64 (upn y1.sq)]), qi (.pointer (some ⟨wl1.heap.size, 36, none⟩)), qi (.agg #[.int .i64 y1.sb, .int .i64 y1.mr]), qi (.agg #[.int .i64 (upn y1.sb), .int .i64 (upn y1.mr)]), qi (.pointer (some ⟨wl1.heap.size, 0, none⟩)), qv 0, qi (.pointer (some ⟨wl1.heap.size, 1, none⟩)), qv 1, qi (.pointer (some ⟨wl1.heap.size, 36, none⟩)), qv 2] ⟨qi_stable, qi_stable, qi_stable, qi_stable, qi_stable, qi_stable, qi_stable, qi_stable, qi_stable, qi_stable, qv_stable, qi_stable, qv_stable, qi_stable, qv_stable, trivial⟩ [10, 12, 14] ⟨?_, ?_, ?_, ?_, ?_, ?_, ?_, ?_, ?_, ?_, ?_, ?_, ?_, ?_, ?_, trivial⟩ ?_
   ·exact stq (fun E => ex_field rfl Try.underlying30 rfl (by kernel_rfl) (E.v oe4))
   ·refine stepq_env rfl rfl rfl fun _ _ _ _ _ _ hm0 _ _ hd hub _ => ?_
    have h0 := hd ⟨0, .data⟩ (by simp) rfl _ rfl
    refine qe_run rfl (wanted_none rfl) (ex_load1 rfl Try.underlying3 rfl h0 (Cs.pre1 (Hx17.out.mod hm0 (by intro h2; have hu := hub 0 10 rfl (by kernel_rfl); rcases h2 with ⟨h0, kk, hk, h2⟩ | h2 <;> omega)) rfl)) QE.refl ?_
    rfl
   ·refine stepq_env rfl rfl rfl fun _ _ _ _ _ _ _ _ _ hd _ _ => ?_
    have h1 := hd ⟨1, .data⟩ (by simp) rfl _ rfl
    refine qe_callF (args := #[.int .i64 y1.rp]) rfl (wanted_none rfl) rfl Try.func92 (args1 h1) (up_any y1.rp _ HOK1.out.rp) ?_
    rintro e w2 ⟨rfl, rfl⟩
    exact ⟨_, rfl, QE.refl, rfl⟩
   ·exact stq (fun E => ex_field rfl Try.underlying30 rfl (by kernel_rfl) (E.v oe4))
   ·refine stepq_env rfl rfl rfl fun _ _ _ _ _ _ hm0 _ _ hd hub _ => ?_
    have h3 := hd ⟨3, .data⟩ (by simp) rfl _ rfl
    refine qe_run rfl (wanted_none rfl) (ex_loadA rfl Try.underlying23 rfl (off := 1) (cs := [.int .i64 y1.cl, .int .i64 y1.sq]) (by kernel_rfl) h3 (Cs.preA (Hx17.out.mod hm0 (by intro h2; have hu := hub 0 10 rfl (by kernel_rfl); rcases h2 with ⟨h0, kk, hk, h2⟩ | h2 <;> omega)) rfl)) QE.refl ?_
    rfl
   ·refine stepq_env rfl rfl rfl fun _ _ _ _ _ _ _ _ _ hd _ _ => ?_
    have h4 := hd ⟨4, .data⟩ (by simp) rfl _ rfl
    refine qe_callF (args := #[.agg #[.int .i64 y1.cl, .int .i64 y1.sq]]) rfl (wanted_none rfl) rfl Try.func100 (args1 h4) (niceName_any y1.cl y1.sq _ HOK1.out.cl HOK1.out.sq) ?_
    rintro e w2 ⟨rfl, hm2⟩
    exact ⟨_, rfl, QE.still hm2, rfl⟩
   ·exact stq (fun E => ex_field rfl Try.underlying30 rfl (by kernel_rfl) (E.v oe4))
   ·refine stepq_env rfl rfl rfl fun _ _ _ _ _ _ hm0 _ _ hd hub _ => ?_
    have h6 := hd ⟨6, .data⟩ (by simp) rfl _ rfl
    refine qe_run rfl (wanted_none rfl) (ex_loadA rfl Try.underlying28 rfl (off := 36) (cs := [.int .i64 y1.sb, .int .i64 y1.mr]) (by kernel_rfl) h6 (Cs.postA (m := 32) (k := 1) (Hx17.out.mod hm0 (by intro h2; have hu := hub 0 10 rfl (by kernel_rfl); rcases h2 with ⟨h0, kk, hk, h2⟩ | h2 <;> omega)) (by rw [List.length_map]; exact HOK1.out.h.1) rfl rfl)) QE.refl ?_
    rfl
   ·refine stepq_env rfl rfl rfl fun _ _ _ _ _ _ _ _ _ hd _ _ => ?_
    have h7 := hd ⟨7, .data⟩ (by simp) rfl _ rfl
    refine qe_callF (args := #[.agg #[.int .i64 y1.sb, .int .i64 y1.mr]]) rfl (wanted_none rfl) rfl Try.func94 (args1 h7) (niceSig_any y1.sb y1.mr _ HOK1.out.sb HOK1.out.mr) ?_
    rintro e w2 ⟨rfl, hm2⟩
    exact ⟨_, rfl, QE.still hm2, rfl⟩
   ·exact stq (fun E => ex_field rfl Try.underlying30 rfl (by kernel_rfl) (E.v oe4))
   ·exact stepq_chain rfl
   ·exact stq (fun E => ex_field rfl Try.underlying30 rfl (by kernel_rfl) (E.v oe4))
   ·exact stepq_chain rfl
   ·exact stq (fun E => ex_field rfl Try.underlying30 rfl (by kernel_rfl) (E.v oe4))
   ·exact stepq_chain rfl
   intro u7_0 hr
   have zu7_0 := hr.size
   have Cx19 := hid (hr.new (S := (fun k => (k = wl1.heap.size))))
   have Hx20 := hid (Hx17.out.mod hr (by intro h2; omega))
   clear Hx17
   clear hr
   refine QChain.go fun Z act E => ?_
   refine qc_store rfl (wanted_none rfl) rfl Hx20.out (off := 0) (vs := [.int .i64 (upn y1.rp)]) (by kernel_rfl) (by intro u hu; simp at hu; subst hu; rfl) (by rw [List.size_toArray]; simp [HOK1.out.h.1]) (E.d 9) (by rw [show act.eval ((.tmp 40)) = _ from (E.d 2)]; rfl) ?_
   intro u7_1a qc0 hm
   have qB4 : Cs u7_1a (wl1.heap.size) (({ y1 with rp := upn y1.rp } : St).cells : List Value).toArray 30 := by rw [show lay _ 0 _ = (({ y1 with rp := upn y1.rp } : St).cells : List Value).toArray from lay_srp y1 _] at qc0; exact qc0
   clear qc0
   have zu7_1a := hm.size
   refine ⟨hm.mono (by intro k hk h; omega), (fun _ => rfl), ?_⟩
   intro u7_1 hr
   have zu7_1 := hr.size
   have Hx21 := hid (qB4.mod hr (by intro h2; omega))
   have Cx22 := hid (Cx19.out.goM hm hr (fun _ _ h => h))
   clear Cx19 hm hr Z act E qB4 Hx20
   refine QChain.go fun Z act E => ?_
   refine qc_store rfl (wanted_none rfl) rfl Hx21.out (off := 1) (vs := [.int .i64 (upn y1.cl), .int .i64 (upn y1.sq)]) (by kernel_rfl) (by intro u hu; simp at hu; rcases hu with rfl | rfl <;> rfl) (by rw [List.size_toArray]; simp [HOK1.out.h.1]) (E.d 11) (by rw [show act.eval ((.tmp 43)) = _ from (E.d 5)]; rfl) ?_
   intro u7_2a qc0 hm
   have qB4 : Cs u7_2a (wl1.heap.size) (({ y1 with rp := upn y1.rp, cl := upn y1.cl, sq := upn y1.sq } : St).cells : List Value).toArray 30 := by rw [show lay _ 1 _ = (({ y1 with rp := upn y1.rp, cl := upn y1.cl, sq := upn y1.sq } : St).cells : List Value).toArray from lay_snm ({ y1 with rp := upn y1.rp } : St) _ _] at qc0; exact qc0
   clear qc0
   have zu7_2a := hm.size
   refine ⟨hm.mono (by intro k hk h; omega), (fun _ => rfl), ?_⟩
   intro u7_2 hr
   have zu7_2 := hr.size
   have Hx23 := hid (qB4.mod hr (by intro h2; omega))
   have Cx24 := hid (Cx22.out.goM hm hr (fun _ _ h => h))
   clear Cx22 hm hr Z act E qB4 Hx21
   refine QChain.go fun Z act E => ?_
   refine qc_store rfl (wanted_none rfl) rfl Hx23.out (off := 36) (vs := [.int .i64 (upn y1.sb), .int .i64 (upn y1.mr)]) (by kernel_rfl) (by intro u hu; simp at hu; rcases hu with rfl | rfl <;> rfl) (by rw [List.size_toArray]; simp [HOK1.out.h.1]) (E.d 13) (by rw [show act.eval ((.tmp 46)) = _ from (E.d 8)]; rfl) ?_
   intro u7_3a qc0 hm
   have qB4 : Cs u7_3a (wl1.heap.size) ((nicSt y1).cells : List Value).toArray 30 := by rw [show lay _ 36 _ = ((nicSt y1).cells : List Value).toArray from lay_ssg ({ y1 with rp := upn y1.rp, cl := upn y1.cl, sq := upn y1.sq } : St) _ _ HOK1.out.h.1] at qc0; exact qc0
   clear qc0
   have zu7_3a := hm.size
   refine ⟨hm.mono (by intro k hk h; omega), (fun _ => rfl), ?_⟩
   intro u7_3 hr
   have zu7_3 := hr.size
   have Hx25 := hid (qB4.mod hr (by intro h2; omega))
   have Cx26 := hid (Cx24.out.goM hm hr (fun _ _ h => h))
   clear Cx24 hm hr Z act E qB4 Hx23
   refine QChain.nil fun vs hl hzz hrows hne => ?_
   obtain ⟨Z, hYZ, hZb, hV⟩ := hzz
   have f2 := fvi hV hl 2
   have f5 := fvi hV hl 5
   have f8 := fvi hV hl 8
   rw [show vs = [gw vs 0, gw vs 1, gw vs 2, gw vs 3, gw vs 4, gw vs 5, gw vs 6, gw vs 7, gw vs 8, gw vs 9, gw vs 10, gw vs 11, gw vs 12, gw vs 13, gw vs 14] from (gw_eta hl).trans rfl]
   have ha0 := HA0.out
   subst ha0
   clear HA0 hV hYZ hZb hsz0 hrows hne oe4
   simp only [putAll, Act.put, List.setIfInBounds_toArray, List.set_cons_zero, List.set_cons_succ, List.set_nil, f2, f5, f8]
   clear hl f2 f5 f8
   go_upto_region 8 with (fail)
   refine wp_region_U 57 [50, 51, 52, 53, 54, 62] [0, 1, 2, 3, 4, 5] (fun a0 HA0 => ?_)
   have oe1 := ev HA0 1 rfl
   have oe3 := ev HA0 3 rfl
   have oe4 := ev HA0 4 rfl
   refine QSeq.pure rfl (.pointer (some ⟨w.heap.size, 37, none⟩)) (fun E => ex_field rfl Try.underlying52 rfl (by kernel_rfl) (E.v oe1)) ?_
   refine QSeq.pure rfl (.slice (some ⟨g1, 0, none⟩) x.l.length cap') (fun E => ex_load1 rfl Try.underlying50 rfl (E.d 0 0) (cm_l ((HKP1_0.out.mod Cx18.out (fun h => h)).mod Cx26.out (by intro h2; omega)) HOK.out.2.1)) ?_
   refine QSeq.pure rfl _ (fun E => ex_move rfl (E.v oe3)) ?_
   refine QSeq.pure rfl _ (fun E => ex_loadA rfl Try.underlying30 rfl (off := 0) (cs := (nicSt y1).cells) (by rw [St.len (nicSt_ok HOK1.out)]; kernel_rfl) (E.v oe4) (Cs.whole Hx25.out)) ?_
   refine QSeq.pure rfl (.pointer (some ⟨g1, 0 + k1 * 38, none⟩)) (fun E => ex_idxS (i := k1) (s := 38) rfl Try.underlying50 (by kernel_rfl) (E.d 1 2) (E.d 2 1) (by omega)) ?_
   refine QSeq.go fun act E => ?_
   refine qc_putS (A := StR) (off := 0 + k1 * 38) (cs := (nicSt y1).cells) (z := (nicSt y1)) rfl (wanted_none rfl) rfl ((HAL1.out.mod Cx18.out (fun _ _ h => h) (fun _ _ h => h)).mod Cx26.out (by intro k h1 h2; omega) (by intro k h1 h2; rcases h1 with h1 | h1 <;> first | omega | (have hb := HBT.out k h1; omega))) (by rw [upto_len]; exact hlt1) (Nat.zero_add _) (show StR.rd (fun _ => False) _ _ _ from ⟨rfl, nicSt_ok HOK1.out⟩) (fun _ h => h.elim) (by intro k h1 h2; (try dsimp only at h1 h2); rcases h1 with h1 | h1 <;> first | omega | (have := HBT.out k h1; omega)) (by kernel_rfl) (E.d 4 0) (by rw [show act.eval (.tmp 53) = _ from (E.d 3 1)]; rfl) ?_
   intro u8_5 q0 hm
   have qacc := q0
   rw [upto_setE HY1.out] at qacc
   clear q0
   have Hx27 := hid qacc
   have zu8_5 := hm.size
   have Cx28 := hid (show Mod (fun k => (New u1_3 u2_2 k)) u7_3 u8_5 from hm)
   clear hm
   clear act E qacc HAL1
   refine QSeq.nil (t' := [_, _, _, _, _, _]) rfl ?_
   obtain rfl := HA0.out
   clear HA0 oe1 oe3 oe4
   simp only [pz, Act.put, List.setIfInBounds_toArray, List.set_cons_zero, List.set_cons_succ, List.set_nil]
   clear Hx25
   go_upto_region 9 with (fail)
   refine wp_region_U 57 [55, 30] [0, 1] (fun a0 HA0 => ?_)
   have oe30 := ev HA0 30 rfl
   refine QSeq.pure rfl (.int .i64 (((k1 : Nat) : Int) + 1)) (fun E => ex_binE rfl (E.y 1 oe30) rfl (guard_ints _ _ _ _ _ _) (run_add_i _ _ Try.underlying3) (congrArg (Value.int .i64) (IntWalk.i64_in _ (by have h9 := (show x.l.length ≤ 1000 from HP.out); omega)))) ?_
   refine QSeq.pure rfl _ (fun E => ex_move rfl (E.d 0 0)) ?_
   refine QSeq.nil (t' := [_, _]) rfl ?_
   obtain rfl := HA0.out
   clear HA0 oe30
   simp only [pz, Act.put, List.setIfInBounds_toArray, List.set_cons_zero, List.set_cons_succ]
   go_wp2
   go_roundw
   case rel => exact ⟨k1 + 1, by go_num, by omega, by omega, (Hx27.out.widen (fun _ h => h) (by intro k h1; rcases h1 with h1 | h1 <;> first | omega | exact h1.elim | exact Or.inl h1 | exact Or.inr (h1))), (((HKP1_0.out.mod Cx18.out (fun h => h)).mod Cx26.out (by intro h2; omega)).mod Cx28.out (by intro h2; omega)), (((HKP1_1.out.mod Cx18.out (fun h => h)).mod Cx26.out (by intro h2; omega)).mod Cx28.out (by intro h2; omega)), (((HML1.out.trans Cx18.out (fun _ _ h => h.elim)).trans Cx26.out (by intro k h1 h2; omega)).trans Cx28.out (by intro k h1 h2; omega))⟩
   case measure => simp [intOf]; omega
  ·skip
   go_upto_region 4 with (fail)
   refine wp_region_U 57 [31] [0] (fun a0 HA0 => ?_)
   have oe29 := ev HA0 29 rfl
   have oe30 := ev HA0 30 rfl
   refine QSeq.pure rfl (.bool false) (fun E => ex_binE rfl (E.v oe30) (E.v oe29) (guard_ints _ _ _ _ _ _) (run_lss_i _ _ _ Try.underlying3) (congrArg Value.bool (decide_eq_false (by omega)))) ?_
   refine QSeq.nil (t' := [_]) rfl ?_
   obtain rfl := HA0.out
   clear HA0 oe29 oe30
   simp only [pz, Act.put, List.setIfInBounds_toArray, List.set_cons_zero, List.set_cons_succ]
   have hq := HAL1.out
   rw [upto_all (by omega)] at hq
   have HQ1 := Lib.hid hq
   clear hq
   go_upto_region 10 with (fail)
   refine wp_region_U 57 [56, 58] [0, 1] (fun a0 HA0 => ?_)
   have oe1 := ev HA0 1 rfl
   have oe2 := ev HA0 2 rfl
   refine QSeq.pure rfl _ (fun E => ex_loadA rfl Try.underlying52 rfl (off := 0) (cs := ((nicCm x.c)).cells ++ [Value.slice ao' x.l.length cap']) (by rw [List.length_append, Cm.len (by exact HOK.out.2.1)]; exact size_ce) (E.v oe1) (Cs.whole HKP1_0.out)) ?_
   refine QSeq.go fun act E => ?_
   refine qc_store rfl (wanted_none rfl) rfl HKP1_1.out (off := 0) (vs := (((nicCm x.c)).cells ++ [Value.slice ao' x.l.length cap'])) (by rw [List.length_append, Cm.len (by exact HOK.out.2.1)]; exact size_ce) (one_ce _ _ rfl) (by rw [Nat.zero_add, List.length_append, Cm.len (by exact HOK.out.2.1)]; exact (by decide : 37 + 1 ≤ 38)) (E.v oe2) (ec (E.d 0 0)) ?_
   intro u10_1 qc0 hm
   have qB2 := qc0.eqv (b := ((((nicCm x.c)).cells ++ [Value.slice ao' x.l.length cap']) : List Value).toArray) (lay_whole _ _ (by rw [List.length_append, Cm.len (by exact HOK.out.2.1)]; rfl))
   clear qc0
   have Hx29 := hid qB2
   have zu10_1 := hm.size
   have Cx30 := hid (show Mod (fun k => (k = w.heap.size + 1)) wl1 u10_1 from hm)
   clear hm
   clear act E qB2 HKP1_1
   refine QSeq.nil (t' := [_, _]) rfl ?_
   obtain rfl := HA0.out
   clear HA0 oe1 oe2
   simp only [pz, Act.put, List.setIfInBounds_toArray, List.set_cons_zero, List.set_cons_succ, List.set_nil]
   go_wp2
   have hq := (HQ1.out.mod Cx30.out (by intro k h1 h2; omega) (by intro k h1 h2; rcases h1 with h1 | h1 <;> first | omega | (have hb := HBT.out k h1; omega)))
   refine bodyPost_ret (results_cellA rfl _ _ (w.heap.size + 1) (((nicCm x.c)).cells ++ [Value.slice ao' x.l.length cap']) rfl (fun k u hu => by rw [Hx29.out.cell]; simpa using hu) Try.underlying52 rfl (by rw [List.length_append, Cm.len (by exact HOK.out.2.1)]; exact size_ce)) rfl ⟨_, rfl, ⟨_, rfl, nicCm_ok HOK.out, ?_⟩, (HML1.out.trans Cx30.out (by intro k h1 h2; omega))⟩
   have hq2 : RdS StR _ _ _ (x.l.map nicSt) := hq.rd
   refine RdS.widen (show RdS StR _ _ _ (nicCe x).l from hq2) ?_
   intro k h
   (try dsimp only at h ⊢)
   rcases h with h | h | h
   ·right; omega
   ·exact Or.inl h
   ·right; omega
end Go.Proofs.Ytknpapcfhnhheaa

/- Promises not too great: gavellaw05's nicePromise. -/
namespace Go.Proofs.Ytknpapcfhnhheaa
open Go Go.RowKit Go.Gv

set_option maxHeartbeats 4000000 in
theorem nicePromise_c : NicR PmR fewPm 54 nicPm := by
 intro R2 x cs w hx hB2 hP
 obtain ⟨v_l, rfl, hok, hs0⟩ := hx
 obtain ⟨ao, cap, rfl⟩ := hs0.shape
 have HS := Lib.hid hs0
 have HBT := Lib.hid hB2
 have HOK := Lib.hid hok
 have HP := Lib.hid hP
 clear hs0 hB2 hok hP
 go_enter Try.func54, Try.ntmps54
 go_upto_region 1 with (fail)
 obtain ⟨w1, hw1⟩ : ∃ zz, zz = ((w.alloc (.cells (x.cells (.slice ao x.l.length cap) : List Value).toArray 55)).alloc (.cells #[.int .i64 0, .int .i64 0, .int .u64 0, .slice none 0 0, .int .i64 0, .int .i64 0] 55)) := ⟨_, rfl⟩
 change Code.wp _ _ _ _ ((w.alloc (.cells (x.cells (.slice ao x.l.length cap) : List Value).toArray 55)).alloc (.cells #[.int .i64 0, .int .i64 0, .int .u64 0, .slice none 0 0, .int .i64 0, .int .i64 0] 55))
 rw [← hw1]
 have HB1 := hid (show Cs w1 (w.heap.size) (x.cells (.slice ao x.l.length cap) : List Value).toArray 55 by rw [hw1]; exact (Cs.new _ _ _).alloc _)
 have HB2 := hid (show Cs w1 (w.heap.size + 1) #[.int .i64 0, .int .i64 0, .int .u64 0, .slice none 0 0, .int .i64 0, .int .i64 0] 55 by rw [hw1]; exact Cs_newN _ _ _ (by simp))
 have hm : Mod (fun _ => False) w w1 := by rw [hw1]; exact ((Mod.refl _ _).alloc _).alloc _
 have HM0 := hid (show Mod (fun _ => False) w w1 from hm.mono (fun _ _ h => h.elim))
 have hs1 : w1.heap.size = w.heap.size + 2 := by rw [hw1]; simp
 have Hx1 := hid (HS.out.mod hm (fun _ _ h => h))
 clear HS
 clear hw1 hm
 go_upto_region 1 with (fail)
 generalize ha0 : Act.mk _ _ = a0
 have oe1 : a0.eval (.tmp 1) = .pointer (some ⟨w.heap.size, 0, none⟩) := by rw [← ha0]; rfl
 have hsz0 : a0.tmps.size = 38 := by rw [← ha0]; rfl
 have HA0 := hid ha0
 clear ha0
 refine wp_region_Q1 38 hsz0 [4, 5, 6, 7, 8, 9, 10, 11, 12, 13, 48, 14, 50, 15, 52] (fun k => (k = w.heap.size)) (fun k j => (k = 0 ∧ ((j = w.heap.size))) ∨ (k = 1 ∧ ((j = w.heap.size))) ∨ (k = 2 ∧ ((j = w.heap.size)))) (by intro k j h; (try dsimp only at h ⊢); omega) [qi (.pointer (some ⟨w.heap.size, 0, none⟩)), qi (.int .i64 x.rp), qi (.int .i64 (upn x.rp)), qi (.pointer (some ⟨w.heap.size, 1, none⟩)), qi (.int .i64 x.ep), qi (.int .i64 (upn x.ep)), qi (.pointer (some ⟨w.heap.size, 4, none⟩)), qi (.agg #[.int .i64 x.sb, .int .i64 x.mr]), qi (.agg #[.int .i64 (upn x.sb), .int .i64 (upn x.mr)]), qi (.pointer (some ⟨w.heap.size, 0, none⟩)), qv 0, qi (.pointer (some ⟨w.heap.size, 1, none⟩)), qv 1, qi (.pointer (some ⟨w.heap.size, 4, none⟩)), qv 2] ⟨qi_stable, qi_stable, qi_stable, qi_stable, qi_stable, qi_stable, qi_stable, qi_stable, qi_stable, qi_stable, qv_stable, qi_stable, qv_stable, qi_stable, qv_stable, trivial⟩ [10, 12, 14] ⟨?_, ?_, ?_, ?_, ?_, ?_, ?_, ?_, ?_, ?_, ?_, ?_, ?_, ?_, ?_, trivial⟩ ?_
 ·exact stq (fun E => ex_field rfl Try.underlying55 rfl (by kernel_rfl) (E.v oe1))
 ·refine stepq_env rfl rfl rfl fun _ _ _ _ _ _ hm0 _ _ hd hub _ => ?_
  have h0 := hd ⟨0, .data⟩ (by simp) rfl _ rfl
  refine qe_run rfl (wanted_none rfl) (ex_load1 rfl Try.underlying3 rfl h0 (Cs.lit1 (HB1.out.mod hm0 (by intro h2; have hu := hub 0 10 rfl (by kernel_rfl); rcases h2 with ⟨h0, kk, hk, h2⟩ | h2 <;> omega)) rfl)) QE.refl ?_
  rfl
 ·refine stepq_env rfl rfl rfl fun _ _ _ _ _ _ _ _ _ hd _ _ => ?_
  have h1 := hd ⟨1, .data⟩ (by simp) rfl _ rfl
  refine qe_callF (args := #[.int .i64 x.rp]) rfl (wanted_none rfl) rfl Try.func92 (args1 h1) (up_any x.rp _ HOK.out.1) ?_
  rintro e w2 ⟨rfl, rfl⟩
  exact ⟨_, rfl, QE.refl, rfl⟩
 ·exact stq (fun E => ex_field rfl Try.underlying55 rfl (by kernel_rfl) (E.v oe1))
 ·refine stepq_env rfl rfl rfl fun _ _ _ _ _ _ hm0 _ _ hd hub _ => ?_
  have h3 := hd ⟨3, .data⟩ (by simp) rfl _ rfl
  refine qe_run rfl (wanted_none rfl) (ex_load1 rfl Try.underlying3 rfl h3 (Cs.lit1 (HB1.out.mod hm0 (by intro h2; have hu := hub 0 10 rfl (by kernel_rfl); rcases h2 with ⟨h0, kk, hk, h2⟩ | h2 <;> omega)) rfl)) QE.refl ?_
  rfl
 ·refine stepq_env rfl rfl rfl fun _ _ _ _ _ _ _ _ _ hd _ _ => ?_
  have h4 := hd ⟨4, .data⟩ (by simp) rfl _ rfl
  refine qe_callF (args := #[.int .i64 x.ep]) rfl (wanted_none rfl) rfl Try.func92 (args1 h4) (up_any x.ep _ HOK.out.2.1) ?_
  rintro e w2 ⟨rfl, rfl⟩
  exact ⟨_, rfl, QE.refl, rfl⟩
 ·exact stq (fun E => ex_field rfl Try.underlying55 rfl (by kernel_rfl) (E.v oe1))
 ·refine stepq_env rfl rfl rfl fun _ _ _ _ _ _ hm0 _ _ hd hub _ => ?_
  have h6 := hd ⟨6, .data⟩ (by simp) rfl _ rfl
  refine qe_run rfl (wanted_none rfl) (ex_loadA rfl Try.underlying28 rfl (off := 4) (cs := [.int .i64 x.sb, .int .i64 x.mr]) (by kernel_rfl) h6 (Cs.litA (HB1.out.mod hm0 (by intro h2; have hu := hub 0 10 rfl (by kernel_rfl); rcases h2 with ⟨h0, kk, hk, h2⟩ | h2 <;> omega)) rfl)) QE.refl ?_
  rfl
 ·refine stepq_env rfl rfl rfl fun _ _ _ _ _ _ _ _ _ hd _ _ => ?_
  have h7 := hd ⟨7, .data⟩ (by simp) rfl _ rfl
  refine qe_callF (args := #[.agg #[.int .i64 x.sb, .int .i64 x.mr]]) rfl (wanted_none rfl) rfl Try.func94 (args1 h7) (niceSig_any x.sb x.mr _ HOK.out.2.2.2.1 HOK.out.2.2.2.2) ?_
  rintro e w2 ⟨rfl, hm2⟩
  exact ⟨_, rfl, QE.still hm2, rfl⟩
 ·exact stq (fun E => ex_field rfl Try.underlying55 rfl (by kernel_rfl) (E.v oe1))
 ·exact stepq_chain rfl
 ·exact stq (fun E => ex_field rfl Try.underlying55 rfl (by kernel_rfl) (E.v oe1))
 ·exact stepq_chain rfl
 ·exact stq (fun E => ex_field rfl Try.underlying55 rfl (by kernel_rfl) (E.v oe1))
 ·exact stepq_chain rfl
 intro u1_0 hr
 have zu1_0 := hr.size
 have Cx2 := hid (hr.new (S := (fun k => (k = w.heap.size))))
 have Hx3 := hid (HB1.out.mod hr (by intro h2; omega))
 clear HB1
 clear hr
 refine QChain.go fun Z act E => ?_
 refine qc_store rfl (wanted_none rfl) rfl Hx3.out (off := 0) (vs := [.int .i64 (upn x.rp)]) (by kernel_rfl) (by intro u hu; simp at hu; subst hu; rfl) (by show 0 + 1 ≤ 6; decide) (E.d 9) (by rw [show act.eval ((.tmp 6)) = _ from (E.d 2)]; rfl) ?_
 intro u1_1a qc0 hm
 have qB1 : Cs u1_1a (w.heap.size) #[.int .i64 (upn x.rp), .int .i64 x.ep, .int .u64 (x.fl : Nat), Value.slice ao x.l.length cap, .int .i64 x.sb, .int .i64 x.mr] 55 := by rw [show lay _ 0 _ = #[.int .i64 (upn x.rp), .int .i64 x.ep, .int .u64 (x.fl : Nat), Value.slice ao x.l.length cap, .int .i64 x.sb, .int .i64 x.mr] from rfl] at qc0; exact qc0
 clear qc0
 have zu1_1a := hm.size
 refine ⟨hm.mono (by intro k hk h; omega), (fun _ => rfl), ?_⟩
 intro u1_1 hr
 have zu1_1 := hr.size
 have Hx4 := hid (qB1.mod hr (by intro h2; omega))
 have Cx5 := hid (Cx2.out.goM hm hr (fun _ _ h => h))
 clear Cx2 hm hr Z act E qB1 Hx3
 refine QChain.go fun Z act E => ?_
 refine qc_store rfl (wanted_none rfl) rfl Hx4.out (off := 1) (vs := [.int .i64 (upn x.ep)]) (by kernel_rfl) (by intro u hu; simp at hu; subst hu; rfl) (by show 1 + 1 ≤ 6; decide) (E.d 11) (by rw [show act.eval ((.tmp 9)) = _ from (E.d 5)]; rfl) ?_
 intro u1_2a qc0 hm
 have qB1 : Cs u1_2a (w.heap.size) #[.int .i64 (upn x.rp), .int .i64 (upn x.ep), .int .u64 (x.fl : Nat), Value.slice ao x.l.length cap, .int .i64 x.sb, .int .i64 x.mr] 55 := by rw [show lay _ 1 _ = #[.int .i64 (upn x.rp), .int .i64 (upn x.ep), .int .u64 (x.fl : Nat), Value.slice ao x.l.length cap, .int .i64 x.sb, .int .i64 x.mr] from rfl] at qc0; exact qc0
 clear qc0
 have zu1_2a := hm.size
 refine ⟨hm.mono (by intro k hk h; omega), (fun _ => rfl), ?_⟩
 intro u1_2 hr
 have zu1_2 := hr.size
 have Hx6 := hid (qB1.mod hr (by intro h2; omega))
 have Cx7 := hid (Cx5.out.goM hm hr (fun _ _ h => h))
 clear Cx5 hm hr Z act E qB1 Hx4
 refine QChain.go fun Z act E => ?_
 refine qc_store rfl (wanted_none rfl) rfl Hx6.out (off := 4) (vs := [.int .i64 (upn x.sb), .int .i64 (upn x.mr)]) (by kernel_rfl) (by intro u hu; simp at hu; rcases hu with rfl | rfl <;> rfl) (by show 4 + 2 ≤ 6; decide) (E.d 13) (by rw [show act.eval ((.tmp 12)) = _ from (E.d 8)]; rfl) ?_
 intro u1_3a qc0 hm
 have qB1 : Cs u1_3a (w.heap.size) #[.int .i64 (upn x.rp), .int .i64 (upn x.ep), .int .u64 (x.fl : Nat), Value.slice ao x.l.length cap, .int .i64 (upn x.sb), .int .i64 (upn x.mr)] 55 := by rw [show lay _ 4 _ = #[.int .i64 (upn x.rp), .int .i64 (upn x.ep), .int .u64 (x.fl : Nat), Value.slice ao x.l.length cap, .int .i64 (upn x.sb), .int .i64 (upn x.mr)] from rfl] at qc0; exact qc0
 clear qc0
 have zu1_3a := hm.size
 refine ⟨hm.mono (by intro k hk h; omega), (fun _ => rfl), ?_⟩
 intro u1_3 hr
 have zu1_3 := hr.size
 have Hx8 := hid (qB1.mod hr (by intro h2; omega))
 have Cx9 := hid (Cx7.out.goM hm hr (fun _ _ h => h))
 clear Cx7 hm hr Z act E qB1 Hx6
 refine QChain.nil fun vs hl hzz hrows hne => ?_
 obtain ⟨Z, hYZ, hZb, hV⟩ := hzz
 have f2 := fvi hV hl 2
 have f5 := fvi hV hl 5
 have f8 := fvi hV hl 8
 rw [show vs = [gw vs 0, gw vs 1, gw vs 2, gw vs 3, gw vs 4, gw vs 5, gw vs 6, gw vs 7, gw vs 8, gw vs 9, gw vs 10, gw vs 11, gw vs 12, gw vs 13, gw vs 14] from (gw_eta hl).trans rfl]
 have ha0 := HA0.out
 subst ha0
 clear HA0 hV hYZ hZb hsz0 hrows hne oe1
 simp only [putAll, Act.put, List.setIfInBounds_toArray, List.set_cons_zero, List.set_cons_succ, List.set_nil, f2, f5, f8]
 clear hl f2 f5 f8
 go_upto_region 2 with (fail)
 refine wp_region_U 38 [16, 17, 18, 19, 42] [0, 1, 2, 3, 4] (fun a0 HA0 => ?_)
 have oe1 := ev HA0 1 rfl
 refine QSeq.pure rfl (.pointer (some ⟨w.heap.size, 3, none⟩)) (fun E => ex_field rfl Try.underlying55 rfl (by kernel_rfl) (E.v oe1)) ?_
 refine QSeq.pure rfl _ (fun E => ex_load1 rfl Try.underlying53 rfl (E.d 0 0) (Cs.lit1 Hx8.out rfl)) ?_
 refine QSeq.go fun act E => ?_
 refine qc_appS (A := CeR) (e := 52) rfl (wanted_none rfl) rfl (.agg #[.int .i64 0, .int .i64 0, .int .u8 0, .int .u8 0, .int .u8 0, .int .u8 0, .int .u8 0, .int .u8 0, .int .u8 0, .int .u8 0, .int .u8 0, .int .u8 0, .int .u8 0, .int .u8 0, .int .u8 0, .int .u8 0, .int .u8 0, .int .u8 0, .int .u8 0, .int .u8 0, .int .u8 0, .int .u8 0, .int .u8 0, .int .u8 0, .int .u8 0, .int .u8 0, .int .u8 0, .int .u8 0, .int .u8 0, .int .u8 0, .int .u8 0, .int .u8 0, .int .u8 0, .int .u8 0, .int .i64 0, .int .i64 0, .int .i64 0, .slice none 0 0]) 96 Try.underlying53 info_Ce (by rfl) (of_decide_eq_true (by kernel_rfl)) rfl (E.d 1 0) (OwS.nil _ _ (fun _ => False) (fun _ => False) _) ((Hx1.out.mod Cx9.out (sB HBT))) (fun _ _ h => h) (by have h9 := (show x.l.length ≤ 1000 from HP.out.1); simp only [List.length_nil]; omega) (by have h9 := (show x.l.length ≤ 1000 from HP.out.1); simp only [List.length_nil]; rw [maxLen_val]; omega) ?_
 intro ao8 cap8 u2_2 qacc hm
 rw [show ([] : List Ce).length + x.l.length = x.l.length from Nat.zero_add _] at qacc ⊢
 rw [List.nil_append] at qacc
 have Hx10 := hid (qacc.widen (R' := (fun k => (New u1_3 u2_2 k))) (E' := (fun k => (R2 k))) (fun _ h => h.elim (fun h => h.elim) (fun h => h)) (by intro k h1; rcases h1 with h1 | h1 <;> first | omega | exact h1.elim | exact h1))
 have zu2_2 := hm.size
 have Cx11 := hid (show Mod (fun _ => False) u1_3 u2_2 from hm)
 clear hm
 clear act E qacc
 refine QSeq.pure rfl (.pointer (some ⟨w.heap.size, 3, none⟩)) (fun E => ex_field rfl Try.underlying55 rfl (by kernel_rfl) (E.v oe1)) ?_
 refine QSeq.go fun act E => ?_
 refine qc_store rfl (wanted_none rfl) rfl (Hx8.out.mod Cx11.out (fun h => h)) (off := 3) (vs := [Value.slice ao8 (x.l.length) cap8]) (by kernel_rfl) one1 (by show 3 + 1 ≤ 6; decide) (E.d 3 0) (ec (E.d 2 1)) ?_
 intro u2_4 qc0 hm
 have qB1 := qc0.eqv (b := #[.int .i64 (upn x.rp), .int .i64 (upn x.ep), .int .u64 (x.fl : Nat), Value.slice ao8 (x.l.length) cap8, .int .i64 (upn x.sb), .int .i64 (upn x.mr)]) rfl
 clear qc0
 have Hx12 := hid qB1
 have zu2_4 := hm.size
 have HMu2_4 := hid hm
 have Cx13 := hid (Mod.goS (S' := (fun k => (k = w.heap.size))) Cx11.out hm (fun _ h => h.elim) (by intro k h0 h2; exact h2))
 clear hm Cx11
 clear act E qB1 Hx8
 have Hx14 := hid (Hx10.out.mod HMu2_4.out (by intro k h1 h2; omega) (sB HBT))
 clear Hx10 HMu2_4
 refine QSeq.nil (t' := [_, _, _, _, _]) rfl ?_
 obtain rfl := HA0.out
 clear HA0 oe1
 simp only [pz, Act.put, List.setIfInBounds_toArray, List.set_cons_zero, List.set_cons_succ, List.set_nil]
 go_upto_region 3 with (fail)
 refine wp_region_U 38 [20, 21, 22, 23] [0, 1, 2, 3] (fun a0 HA0 => ?_)
 have oe1 := ev HA0 1 rfl
 refine QSeq.pure rfl (.pointer (some ⟨w.heap.size, 3, none⟩)) (fun E => ex_field rfl Try.underlying55 rfl (by kernel_rfl) (E.v oe1)) ?_
 refine QSeq.pure rfl _ (fun E => ex_load1 rfl Try.underlying53 rfl (E.d 0 0) (Cs.lit1 Hx12.out rfl)) ?_
 refine QSeq.pure rfl (.int .i64 (x.l.length)) (fun E => ex_lenS rfl (E.d 1 0) Try.underlying53) ?_
 refine QSeq.pure rfl (.int .i64 0) (fun E => ex_move rfl rfl) ?_
 refine QSeq.nil (t' := [_, _, _, _]) rfl ?_
 obtain rfl := HA0.out
 clear HA0 oe1
 simp only [pz, Act.put, List.setIfInBounds_toArray, List.set_cons_zero, List.set_cons_succ]
 go_wp2
 go_loopw [23] (fun ti wr => ∃ k : Nat, ti = .int .i64 (k : Int) ∧ k ≤ x.l.length ∧ u2_4.heap.size ≤ wr.heap.size ∧ OwS CeR 52 (fun k => (New u1_3 u2_2 k)) (fun k => (R2 k) ∨ (u2_4.heap.size ≤ k ∧ k < wr.heap.size)) wr (.slice ao8 (x.l.length) cap8) (upto nicCe k x.l) ∧ Cs wr (w.heap.size) #[.int .i64 (upn x.rp), .int .i64 (upn x.ep), .int .u64 (x.fl : Nat), Value.slice ao8 (x.l.length) cap8, .int .i64 (upn x.sb), .int .i64 (upn x.mr)] 55 ∧ Cs wr (w.heap.size + 1) #[.int .i64 0, .int .i64 0, .int .u64 0, .slice none 0 0, .int .i64 0, .int .i64 0] 55 ∧ Mod (fun _ => False) w wr) (fun ti _ => x.l.length - (intOf ti).toNat)
 case atStart => exact ⟨0, rfl, Nat.zero_le _, Nat.le_refl _, by rw [upto_zero]; exact Hx14.out.widen (fun _ h => h) (by intro k h1; first | omega | exact h1.elim | exact Or.inl h1 | exact Or.inr (h1)), Hx12.out, ((HB2.out.mod Cx9.out (by intro h2; omega)).mod Cx13.out (by intro h2; omega)), ((HM0.out.trans Cx9.out (by intro k h1 h2; omega)).trans Cx13.out (by intro k h1 h2; omega))⟩
 case round =>
  obtain ⟨k1, rfl, hk, hz, ha, hk_0, hk_1, hm⟩ := hrel
  obtain ⟨wl1, rfl⟩ : ∃ x, x = wr := ⟨_, rfl⟩
  have HAL1 := Lib.hid ha
  have HKP1_0 := Lib.hid hk_0
  have HKP1_1 := Lib.hid hk_1
  have HML1 := Lib.hid hm
  clear ha hm hk_0 hk_1 Hx1 Hx12 HB2 HM0 Hx14
  by_cases hlt1 : k1 < x.l.length
  ·skip
   go_upto_region 4 with (fail)
   refine wp_region_U 38 [24] [0] (fun a0 HA0 => ?_)
   have oe22 := ev HA0 22 rfl
   have oe23 := ev HA0 23 rfl
   refine QSeq.pure rfl (.bool true) (fun E => ex_binE rfl (E.v oe23) (E.v oe22) (guard_ints _ _ _ _ _ _) (run_lss_i _ _ _ Try.underlying3) (congrArg Value.bool (decide_eq_true (by omega)))) ?_
   refine QSeq.nil (t' := [_]) rfl ?_
   obtain rfl := HA0.out
   clear HA0 oe22 oe23
   simp only [pz, Act.put, List.setIfInBounds_toArray, List.set_cons_zero, List.set_cons_succ]
   obtain ⟨y1, hy1⟩ : ∃ y, x.l[k1]? = some y := ⟨_, List.getElem?_eq_getElem hlt1⟩
   have HY1 := Lib.hid hy1
   clear hy1
   obtain ⟨g1, cs1, cur1, eao, hrg, hrd, hcs, -, -⟩ := HAL1.out.at (upto_getE (f := nicCe) HY1.out)
   subst eao
   have HRD1 := hid hrd
   have hcl : cs1.length = 38 := CeR.len hrd
   have HCL1 := Lib.hid hcl
   have HAT1 := hid (show CellsAt (fun k => (New u1_3 u2_2 k)) wl1 g1 (0 + k1 * 38) cs1 from ⟨hrg, hcs⟩)
   clear hrg hcs hrd hcl
   go_upto_region 5 with (fail)
   refine wp_region_U 38 [25, 3] [0, 1] (fun a0 HA0 => ?_)
   have oe23 := ev HA0 23 rfl
   refine QSeq.pure rfl _ (fun E => ex_move rfl (E.v oe23)) ?_
   refine QSeq.pure rfl _ (fun E => ex_assign rfl (E.d 0 0)) ?_
   refine QSeq.nil (t' := [_, _]) rfl ?_
   obtain rfl := HA0.out
   clear HA0 oe23
   simp only [pz, Act.put, List.setIfInBounds_toArray, List.set_cons_zero, List.set_cons_succ]
   go_upto_region 6 with (fail)
   generalize ha0 : Act.mk _ _ = a0
   have oe1 : a0.eval (.tmp 1) = .pointer (some ⟨w.heap.size, 0, none⟩) := by rw [← ha0]; rfl
   have oe3 : a0.eval (.tmp 3) = .int .i64 ((k1 : Nat) : Int) := by rw [← ha0]; rfl
   have hsz0 : a0.tmps.size = 38 := by rw [← ha0]; rfl
   have HA0 := hid ha0
   clear ha0
   refine wp_region_Q1 38 hsz0 [26, 27, 28, 29, 30, 31, 32, 33, 34, 35, 48] (fun k => (New u1_3 u2_2 k)) (fun k j => (k = 1 ∧ ((New u1_3 u2_2 j)))) (fun _ _ h => h.2) [qi (.pointer (some ⟨w.heap.size, 3, none⟩)), qi (.slice (some ⟨g1, 0, none⟩) (x.l.length) cap8), qi (.int .i64 ((k1 : Nat) : Int)), qi (.pointer (some ⟨w.heap.size, 3, none⟩)), qi (.slice (some ⟨g1, 0, none⟩) (x.l.length) cap8), qi (.int .i64 ((k1 : Nat) : Int)), qi (.pointer (some ⟨g1, 0 + k1 * 38, none⟩)), qi (.agg cs1.toArray), qv 0, qi (.pointer (some ⟨g1, 0 + k1 * 38, none⟩)), qv 1] ⟨qi_stable, qi_stable, qi_stable, qi_stable, qi_stable, qi_stable, qi_stable, qi_stable, qv_stable, qi_stable, qv_stable, trivial⟩ [8, 10] ⟨?_, ?_, ?_, ?_, ?_, ?_, ?_, ?_, ?_, ?_, ?_, trivial⟩ ?_
   ·exact stq (fun E => ex_field rfl Try.underlying55 rfl (by kernel_rfl) (E.v oe1))
   ·exact stq (fun E => ex_load1 rfl Try.underlying53 rfl (E.d 0) (Cs.lit1 (HKP1_0.out.mod E.m (by intro h2; omega)) rfl))
   ·exact stq (fun E => ex_move rfl (E.v oe3))
   ·exact stq (fun E => ex_field rfl Try.underlying55 rfl (by kernel_rfl) (E.v oe1))
   ·exact stq (fun E => ex_load1 rfl Try.underlying53 rfl (E.d 3) (Cs.lit1 (HKP1_0.out.mod E.m (by intro h2; omega)) rfl))
   ·exact stq (fun E => ex_move rfl (E.v oe3))
   ·exact stq (fun E => ex_idxS (i := k1) (s := 38) rfl Try.underlying53 (by kernel_rfl) (E.d 4) (E.d 5) (by omega))
   ·refine stepq_env rfl rfl rfl fun _ _ _ _ _ _ hm0 _ _ hd hub _ => ?_
    have h6 := hd ⟨6, .data⟩ (by simp) rfl _ rfl
    refine qe_run rfl (wanted_none rfl) (ex_loadA rfl Try.underlying52 rfl (off := 0 + k1 * 38) (cs := cs1) (by rw [HCL1.out]; kernel_rfl) h6 (fun j u hu => ((HAT1.out.mod hm0 (by intro k h1 h2; have hu := hub 1 10 rfl (by kernel_rfl); rcases h2 with ⟨h0, kk, hk, h2⟩ | h2 <;> first | omega | (first | omega | (have hb := HBT.out k h1; omega) | (have hb := HBT.out k h2; omega))))).2 j u hu)) QE.refl ?_
    rfl
   ·exact stepq_chain rfl
   ·exact stq (fun E => ex_idxS (i := k1) (s := 38) rfl Try.underlying53 (by kernel_rfl) (E.d 1) (E.d 2) (by omega))
   ·exact stepq_chain rfl
   intro u6_0 hr
   have zu6_0 := hr.size
   clear HAT1
   have Cx15 := hid (hr.new (S := (fun k => (New u1_3 u2_2 k))))
   have Hx16 := hid (HAL1.out.mod hr (by intro k h1 h2; omega) (by intro k h1 h2; rcases h1 with h1 | h1 <;> first | omega | (have hb := HBT.out k h1; omega)))
   clear HAL1
   clear hr
   refine QChain.go fun Z act E => ?_
   refine qc_callF (args := #[.agg cs1.toArray]) rfl (wanted_none rfl) rfl Try.func53 (args1 (E.d 7)) (nice_c _ _ _ _ (HRD1.out.mod Cx15.out (by intro k h1 h2; rcases h1 with h1 | h1 <;> first | omega | (have hb := HBT.out k h1; omega))) (by intro k h1; rcases h1 with h1 | h1 <;> first | omega | (have hb := HBT.out k h1; omega)) (HP.out.2 _ (List.mem_of_getElem? HY1.out))) ?_
   rintro e u6_1a ⟨cz1, rfl, qel1, hm⟩
   have zu6_1a := hm.size
   refine ⟨_, rfl, hm.mono (fun _ _ h => h.elim), (fun _ => rfl), ?_⟩
   intro u6_1 hr
   have zu6_1 := hr.size
   have Hx17 := hid ((qel1.widen (R' := (fun k => (R2 k) ∨ (New u2_4 wl1 k) ∨ (New u6_0 u6_1a k))) (by intro k h1; simp only [or_assoc] at h1 ⊢; exact h1)).mod hr (by intro k h1 h2; rcases h1 with h1 | h1 | h1 <;> first | omega | (have hb := HBT.out k h1; omega)))
   have hmr := Mod.after hm hr
   have Hx18 := hid (Hx16.out.mod hmr (by intro k h1 h2; omega) (by intro k h1 h2; rcases h1 with h1 | h1 <;> first | omega | (have hb := HBT.out k h1; omega)))
   clear Hx16
   clear hmr
   have Cx19 := hid (Cx15.out.go hm hr)
   clear Cx15 hm hr Z act E qel1 HRD1
   refine QChain.go fun Z act E => ?_
   refine qc_putS (A := CeR) (off := 0 + k1 * 38) (cs := cz1) (z := (nicCe y1)) rfl (wanted_none rfl) rfl (Hx18.out.widen (E' := (fun k => (R2 k) ∨ (New u2_4 wl1 k) ∨ (New u6_0 u6_1a k))) (fun _ h => h) (by intro k h1; rcases h1 with h1 | h1 <;> first | omega | exact h1.elim | exact Or.inl h1 | exact Or.inr (Or.inl h1) | exact Or.inr (Or.inr (h1)))) (by rw [upto_len]; exact hlt1) (Nat.zero_add _) Hx17.out (by intro k h1; (try dsimp only at h1 ⊢); rcases h1 with h1 | h1 | h1 <;> first | (have hb := HBT.out k h1; exact ⟨Or.inl h1, by omega⟩) | exact ⟨Or.inr (by omega), by omega⟩) (by intro k h1 h2; (try dsimp only at h1 h2); rcases h1 with h1 | h1 | h1 <;> first | omega | (have := HBT.out k h1; omega)) (by kernel_rfl) (E.d 9) (by rw [show act.eval (.tmp 34) = _ from (chv (v := .agg cz1.toArray) (E.d 8))]; rfl) ?_
   intro u6_2a q0 hm
   have qacc := q0
   rw [upto_setE HY1.out] at qacc
   clear q0
   have zu6_2a := hm.size
   refine ⟨hm.mono (by intro k hk h; omega), (fun _ => rfl), ?_⟩
   intro u6_2 hr
   have zu6_2 := hr.size
   have Hx20 := hid (qacc.mod hr (by intro k h1 h2; omega) (by intro k h1 h2; rcases h1 with h1 | h1 | h1 <;> first | omega | (have hb := HBT.out k h1; omega)))
   have hmr := hm.two hr
   have Hx21 := hid (Hx17.out.mod hmr (by intro k h1 h2; rcases h1 with h1 | h1 | h1 <;> first | omega | (have hb := HBT.out k h1; omega)))
   clear Hx17
   clear hmr
   have Cx22 := hid (Cx19.out.goM hm hr (fun _ _ h => h))
   clear Cx19 hm hr Z act E qacc Hx18
   refine QChain.nil fun vs hl hzz hrows hne => ?_
   obtain ⟨Z, hYZ, hZb, hV⟩ := hzz
   have f2 := fvi hV hl 2
   have f5 := fvi hV hl 5
   have f8 := fvc hV hl 8
   rw [show vs = [gw vs 0, gw vs 1, gw vs 2, gw vs 3, gw vs 4, gw vs 5, gw vs 6, gw vs 7, gw vs 8, gw vs 9, gw vs 10] from (gw_eta hl).trans rfl]
   have ha0 := HA0.out
   subst ha0
   clear HA0 hV hYZ hZb hsz0 hrows hne oe1 oe3
   simp only [putAll, Act.put, List.setIfInBounds_toArray, List.set_cons_zero, List.set_cons_succ, List.set_nil, f2, f5, f8]
   clear hl f2 f5 f8
   clear Hx21
   go_upto_region 7 with (fail)
   refine wp_region_U 38 [36, 23] [0, 1] (fun a0 HA0 => ?_)
   have oe23 := ev HA0 23 rfl
   refine QSeq.pure rfl (.int .i64 (((k1 : Nat) : Int) + 1)) (fun E => ex_binE rfl (E.y 1 oe23) rfl (guard_ints _ _ _ _ _ _) (run_add_i _ _ Try.underlying3) (congrArg (Value.int .i64) (IntWalk.i64_in _ (by have h9 := (show x.l.length ≤ 1000 from HP.out.1); omega)))) ?_
   refine QSeq.pure rfl _ (fun E => ex_move rfl (E.d 0 0)) ?_
   refine QSeq.nil (t' := [_, _]) rfl ?_
   obtain rfl := HA0.out
   clear HA0 oe23
   simp only [pz, Act.put, List.setIfInBounds_toArray, List.set_cons_zero, List.set_cons_succ]
   go_wp2
   go_roundw
   case rel => exact ⟨k1 + 1, by go_num, by omega, by omega, (Hx20.out.widen (fun _ h => h) (by intro k h1; rcases h1 with h1 | h1 | h1 <;> first | omega | exact h1.elim | exact Or.inl h1 | exact Or.inr (h1))), (HKP1_0.out.mod Cx22.out (by intro h2; omega)), (HKP1_1.out.mod Cx22.out (by intro h2; omega)), (HML1.out.trans Cx22.out (by intro k h1 h2; omega))⟩
   case measure => simp [intOf]; omega
  ·skip
   go_upto_region 4 with (fail)
   refine wp_region_U 38 [24] [0] (fun a0 HA0 => ?_)
   have oe22 := ev HA0 22 rfl
   have oe23 := ev HA0 23 rfl
   refine QSeq.pure rfl (.bool false) (fun E => ex_binE rfl (E.v oe23) (E.v oe22) (guard_ints _ _ _ _ _ _) (run_lss_i _ _ _ Try.underlying3) (congrArg Value.bool (decide_eq_false (by omega)))) ?_
   refine QSeq.nil (t' := [_]) rfl ?_
   obtain rfl := HA0.out
   clear HA0 oe22 oe23
   simp only [pz, Act.put, List.setIfInBounds_toArray, List.set_cons_zero, List.set_cons_succ]
   have hq := HAL1.out
   rw [upto_all (by omega)] at hq
   have HQ1 := Lib.hid hq
   clear hq
   go_upto_region 8 with (fail)
   refine wp_region_U 38 [37, 39] [0, 1] (fun a0 HA0 => ?_)
   have oe1 := ev HA0 1 rfl
   have oe2 := ev HA0 2 rfl
   refine QSeq.pure rfl _ (fun E => ex_loadA rfl Try.underlying55 rfl (off := 0) (cs := [.int .i64 (upn x.rp), .int .i64 (upn x.ep), .int .u64 (x.fl : Nat), Value.slice ao8 (x.l.length) cap8, .int .i64 (upn x.sb), .int .i64 (upn x.mr)]) (by kernel_rfl) (E.v oe1) (Cs.whole HKP1_0.out)) ?_
   refine QSeq.go fun act E => ?_
   refine qc_store rfl (wanted_none rfl) rfl HKP1_1.out (off := 0) (vs := [.int .i64 (upn x.rp), .int .i64 (upn x.ep), .int .u64 (x.fl : Nat), Value.slice ao8 (x.l.length) cap8, .int .i64 (upn x.sb), .int .i64 (upn x.mr)]) (by kernel_rfl) (by intro u hu; simp at hu; rcases hu with rfl | rfl | rfl | rfl | rfl | rfl <;> rfl) (by show 0 + 6 ≤ 6; decide) (E.v oe2) (ec (E.d 0 0)) ?_
   intro u8_1 qc0 hm
   have qB2 := qc0.eqv (b := #[.int .i64 (upn x.rp), .int .i64 (upn x.ep), .int .u64 (x.fl : Nat), Value.slice ao8 (x.l.length) cap8, .int .i64 (upn x.sb), .int .i64 (upn x.mr)]) rfl
   clear qc0
   have Hx23 := hid qB2
   have zu8_1 := hm.size
   have Cx24 := hid (show Mod (fun k => (k = w.heap.size + 1)) wl1 u8_1 from hm)
   clear hm
   clear act E qB2 HKP1_1
   refine QSeq.nil (t' := [_, _]) rfl ?_
   obtain rfl := HA0.out
   clear HA0 oe1 oe2
   simp only [pz, Act.put, List.setIfInBounds_toArray, List.set_cons_zero, List.set_cons_succ, List.set_nil]
   go_wp2
   have hq := (HQ1.out.mod Cx24.out (by intro k h1 h2; omega) (by intro k h1 h2; rcases h1 with h1 | h1 <;> first | omega | (have hb := HBT.out k h1; omega)))
   refine bodyPost_ret (results_cellA rfl _ _ (w.heap.size + 1) ([.int .i64 (upn x.rp), .int .i64 (upn x.ep), .int .u64 (x.fl : Nat), Value.slice ao8 (x.l.length) cap8, .int .i64 (upn x.sb), .int .i64 (upn x.mr)]) rfl (fun k u hu => by rw [Hx23.out.cell]; simpa using hu) Try.underlying55 rfl (by kernel_rfl)) rfl ⟨_, rfl, ⟨_, rfl, ⟨upn_I _, upn_I _, HOK.out.2.2.1, upn_I _, upn_I _⟩, ?_⟩, (HML1.out.trans Cx24.out (by intro k h1 h2; omega))⟩
   have hq2 : RdS CeR _ _ _ (x.l.map nicCe) := hq.rd
   refine RdS.widen (show RdS CeR _ _ _ (nicPm x).l from hq2) ?_
   intro k h
   (try dsimp only at h ⊢)
   rcases h with h | h | h
   ·right; omega
   ·exact Or.inl h
   ·right; omega
end Go.Proofs.Ytknpapcfhnhheaa
