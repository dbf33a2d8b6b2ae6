/- Texts that are built one behind the other: XPt1. No condition. -/
import Derived.Test.YtknpapcfhnhheaaP3
/- Small parts of messages, put as bytes. -/
set_option maxRecDepth 100000
set_option linter.unusedVariables false
namespace Go.Proofs.Ytknpapcfhnhheaa
open Go Go.RowKit Go.Gv


/-- a signature's bytes, a name's, those of a list of things, and so on -/
def sigB (a b : Int) : List Int := encI a ++ encI b
def nameB (a b : Int) : List Int := encI a ++ encI b
def listB {α : Type} (f : α → List Int) (l : List α) : List Int := encI l.length ++ (l.map f).flatten
def cmB (x : Cm) : List Int := nameB x.cl x.sq ++ (x.h ++ (encI x.ln ++ sigB x.sb x.mr))
def stB (x : St) : List Int := encI x.rp ++ (nameB x.cl x.sq ++ (x.h ++ (encN x.tm ++ sigB x.sb x.mr)))
def ceB (x : Ce) : List Int := cmB x.c ++ listB stB x.l
def pmB (x : Pm) : List Int := encI x.rp ++ (encI x.ep ++ (encN x.fl ++ (listB ceB x.l ++ sigB x.sb x.mr)))
def opB (x : Op) : List Int := encI x.ix ++ ((encN x.pl.length ++ x.pl) ++ x.nc)
def dnB (x : Dn) : List Int := encI x.rp ++ (encI x.ix ++ sigB x.sb x.mr)
def tbB (x : Tb) : List Int := encI x.ix ++ listB dnB x.l
def baB (x : Ba) : List Int := encI x.ep ++ (encN x.tm ++ (listB pmB x.ps ++ (listB opB x.os ++ listB tbB x.ts)))
theorem WInt_Q {R : Nat → Prop} {g : Nat} {n : Int} {bs : List Int} {w : World} (hW : WrR R 900000 w g bs) (hn : I64 n) (hl : (bs ++ encI n).length ≤ 900000) :
    Calls Try.prog 64 #[.pointer (some ⟨g, 0, none⟩), .int .i64 n] w fun e w' => e = .returned (.pointer (some ⟨g, 0, none⟩)) ∧ WrR (fun k => R k ∨ New w w' k) 900000 w' g (bs ++ encI n) ∧ Mod R w w' := by
  obtain ⟨v, h1, h2, h3, h4⟩ := hW
  exact (WInt_any g n v bs w h1 hn (by unfold Room; omega)).mono fun _ _ ⟨he, h⟩ => ⟨he, WrTo_R _ h2 h3 h hl⟩
theorem WNum_Q {R : Nat → Prop} {g : Nat} {n : Nat} {bs : List Int} {w : World} (hW : WrR R 900000 w g bs) (hn : n < U64) (hl : (bs ++ encN n).length ≤ 900000) :
    Calls Try.prog 67 #[.pointer (some ⟨g, 0, none⟩), .int .u64 n] w fun e w' => e = .returned (.pointer (some ⟨g, 0, none⟩)) ∧ WrR (fun k => R k ∨ New w w' k) 900000 w' g (bs ++ encN n) ∧ Mod R w w' := by
  obtain ⟨v, h1, h2, h3, h4⟩ := hW
  exact (Num_any g n v bs w h1 hn (by unfold Room; omega)).mono fun _ _ ⟨he, h⟩ => ⟨he, WrTo_R _ h2 h3 h hl⟩
theorem WHash_Q {R : Nat → Prop} {g : Nat} {h bs : List Int} {w : World} (hW : WrR R 900000 w g bs) (hh : HK h) (hl : (bs ++ h).length ≤ 900000) :
    Calls Try.prog 66 #[.pointer (some ⟨g, 0, none⟩), hv h] w fun e w' => e = .returned (.pointer (some ⟨g, 0, none⟩)) ∧ WrR (fun k => R k ∨ New w w' k) 900000 w' g (bs ++ h) ∧ Mod R w w' := by
  obtain ⟨v, h1, h2, h3, h4⟩ := hW
  exact (WHash_any g v bs h w h1 hh.1 hh.2 (by unfold Room; omega)).mono fun _ _ ⟨he, h⟩ => ⟨he, WrTo_R _ h2 h3 h hl⟩
theorem WRow_Q {R R' : Nat → Prop} {M g : Nat} {bs : List Int} {v2 : Value} {cs : List Int} {w : World} (hW : WrR R 900000 w g bs) (hr : RdR R' M w v2 cs) (hs : ∀ k, R' k → R k → False) (hl : (bs ++ (encN cs.length ++ cs)).length ≤ 900000) :
    Calls Try.prog 107 #[.pointer (some ⟨g, 0, none⟩), v2] w fun e w' => e = .returned (.pointer (some ⟨g, 0, none⟩)) ∧ WrR (fun k => R k ∨ New w w' k) 900000 w' g (bs ++ (encN cs.length ++ cs)) ∧ Mod R w w' := by
  obtain ⟨v, h1, h2, h3, h4⟩ := hW
  obtain ⟨ao, cap, rfl⟩ := hr.shape
  have hlc : cs.length ≤ 900000 := by simp only [List.length_append] at hl; omega
  refine (WRow_any g v bs ao cap cs w h1 hr.1 ?_ (by unfold Room; omega)).mono fun _ _ ⟨he, h⟩ => ⟨he, WrTo_R _ h2 h3 h hl⟩
  intro h0 k hg hk
  rcases hk with rfl | hk
  · exact hs _ (hr.2.1 h0 _ hg) h2
  · exact hs _ (hr.2.1 h0 _ hg) (h3 k hk.symm)
/-- a function that puts things of a kind -/
def Puts {α : Type} (A : Rep α) (F : FuncId) (f : α → List Int) : Prop := ∀ (R R2 : Nat → Prop) (g : Nat) (bs : List Int) (cs : List Value) (x : α) (w : World), WrR R 900000 w g bs → (∀ k, R k → k < w.heap.size) → A.rd R2 w cs x → (∀ k, R2 k → k < w.heap.size) → (∀ k, R k → R2 k → False) → (bs ++ f x).length ≤ 900000 →
  Calls Try.prog F #[.pointer (some ⟨g, 0, none⟩), .agg cs.toArray] w fun e w' => e = .returned (.tuple #[]) ∧ WrR (fun k => R k ∨ New w w' k) 900000 w' g (bs ++ f x) ∧ Mod R w w'
/-- one that puts lists of them -/
def PutsL {α : Type} (A : Rep α) (F Fe : FuncId) (f : α → List Int) : Prop := ∀ (R R2 : Nat → Prop) (g : Nat) (bs : List Int) (v : Value) (l : List α) (w : World), WrR R 900000 w g bs → (∀ k, R k → k < w.heap.size) → RdS A R2 w v l → (∀ k, R2 k → k < w.heap.size) → (∀ k, R k → R2 k → False) → (bs ++ listB f l).length ≤ 900000 →
  Calls Try.prog F #[.pointer (some ⟨g, 0, none⟩), v, .func (.func Fe) #[] #[]] w fun e w' => e = .returned (.tuple #[]) ∧ WrR (fun k => R k ∨ New w w' k) 900000 w' g (bs ++ listB f l) ∧ Mod R w w'
theorem put_len {α : Type} (f : α → List Int) (bs : List Int) (n : List Int) (l : List α) (k : Nat) : (bs ++ (n ++ ((l.take k).map f).flatten)).length ≤ (bs ++ (n ++ (l.map f).flatten)).length := by
  have h : (l.map f).flatten = ((l.take k).map f).flatten ++ ((l.drop k).map f).flatten := by rw [← List.flatten_append, ← List.map_append, List.take_append_drop]
  rw [h]
  simp only [List.length_append]
  omega
set_option maxHeartbeats 2000000 in
theorem PutSig_Q {R : Nat → Prop} {g : Nat} {bs : List Int} {a b : Int} {w : World} (hW : WrR R 900000 w g bs) (hB : ∀ k, R k → k < w.heap.size) (ha : I64 a) (hb : I64 b) (hl : (bs ++ sigB a b).length ≤ 900000) :
    Calls Try.prog 142 #[.pointer (some ⟨g, 0, none⟩), .agg #[.int .i64 a, .int .i64 b]] w fun e w' => e = .returned (.tuple #[]) ∧ WrR (fun k => R k ∨ New w w' k) 900000 w' g (bs ++ sigB a b) ∧ Mod R w w' := by
  have HW := Lib.hid hW
  have HBR := Lib.hid hB
  have HL := hid (show (bs ++ (encI a ++ encI b)).length ≤ 900000 from hl)
  have HA := Lib.hid ha
  have HB := Lib.hid hb
  clear hW hB hl ha hb
  change Calls _ _ #[.pointer (some ⟨g, 0, none⟩), .agg #[.int .i64 a, .int .i64 b]] _ _
  go_enter Try.func142, Try.ntmps142
  go_upto_region 1 with (fail)
  obtain ⟨w1, hw1⟩ : ∃ zz, zz = (w.alloc (.cells #[.int .i64 a, .int .i64 b] 28)) := ⟨_, rfl⟩
  change Code.wp _ _ _ _ (w.alloc (.cells #[.int .i64 a, .int .i64 b] 28))
  rw [← hw1]
  have HB3 := hid (show Cs w1 (w.heap.size) #[.int .i64 a, .int .i64 b] 28 by rw [hw1]; exact Cs.new _ _ _)
  have hm : Mod (fun _ => False) w w1 := by rw [hw1]; exact (Mod.refl _ _).alloc _
  have HM0 := hid (show Mod (fun k => (R k)) w w1 from hm.mono (fun _ _ h => h.elim))
  have hs1 : w1.heap.size = w.heap.size + 1 := by rw [hw1]; simp
  have Hx1 := hid (HW.out.mod hm (fun _ _ h => h))
  clear HW
  clear hw1 hm
  go_upto_region 1 with (fail)
  generalize ha0 : Act.mk _ _ = a0
  have oe0 : a0.eval (.tmp 0) = .pointer (some ⟨g, 0, none⟩) := by rw [← ha0]; rfl
  have oe3 : a0.eval (.tmp 3) = .pointer (some ⟨w.heap.size, 0, none⟩) := by rw [← ha0]; rfl
  have hsz0 : a0.tmps.size = 11 := by rw [← ha0]; rfl
  have HA0 := hid ha0
  clear ha0
  refine wp_region_Q1 11 hsz0 [4, 5, 6, 7, 8, 9, 10] (fun k => (R k)) (fun k j => (k = 0 ∧ ((R j))) ∨ (k = 1 ∧ ((R j)))) (by intro k j h; (try dsimp only at h ⊢); rcases h with ⟨-, h⟩ | ⟨-, h⟩; (exact h); (exact h)) [qi (.pointer (some ⟨g, 0, none⟩)), qi (.pointer (some ⟨w.heap.size, 0, none⟩)), qi (.int .i64 a), qi (.pointer (some ⟨g, 0, none⟩)), qi (.pointer (some ⟨w.heap.size, 1, none⟩)), qi (.int .i64 b), qi (.pointer (some ⟨g, 0, none⟩))] ⟨qi_stable, qi_stable, qi_stable, qi_stable, qi_stable, qi_stable, qi_stable, trivial⟩ [3, 6] ⟨?_, ?_, ?_, ?_, ?_, ?_, ?_, trivial⟩ ?_
  · exact stq (fun E => ex_move rfl (E.v oe0))
  · exact stq (fun E => ex_field rfl Try.underlying28 rfl (by kernel_rfl) (E.v oe3))
  · exact stq (fun E => ex_load1 rfl Try.underlying3 rfl (E.d 1) (Cs.lit1 (HB3.out.mod E.m (by intro h2; rcases h2 with ⟨h0, h2⟩ | h2 <;> first | omega | (have hb := HBR.out _ h2; omega))) rfl))
  · exact stepq_chain rfl
  · exact stq (fun E => ex_field rfl Try.underlying28 rfl (by kernel_rfl) (E.v oe3))
  · exact stq (fun E => ex_load1 rfl Try.underlying3 rfl (E.d 4) (Cs.lit1 (HB3.out.mod E.m (by intro h2; rcases h2 with ⟨h0, h2⟩ | h2 <;> first | omega | (have hb := HBR.out _ h2; omega))) rfl))
  · exact stepq_chain rfl
  intro u1_0 hr
  have zu1_0 := hr.size
  have Cx2 := hid (hr.new (S := (fun k => (R k))))
  have Hx3 := hid (Hx1.out.mod hr (by intro k h1 h2; have hb := HBR.out k h1; omega))
  clear Hx1
  clear hr
  refine QChain.go fun Z act E => ?_
  refine qc_callF (args := #[.pointer (some ⟨g, 0, none⟩), .int .i64 a]) rfl (wanted_none rfl) rfl Try.func64 (args2 (E.d 0) (E.d 2)) (WInt_Q Hx3.out HA.out (by have := HL.out; simp only [List.length_append] at this ⊢; omega)) ?_
  rintro e u1_1a ⟨rfl, qwr, hm⟩
  have zu1_1a := hm.size
  refine ⟨_, rfl, hm.mono (by intro k hk h; first | omega | exact Or.inl ⟨(by have hb := HBR.out k h; omega), Or.inl ⟨rfl, h⟩⟩), (fun _ => rfl), ?_⟩
  intro u1_1 hr
  have zu1_1 := hr.size
  have Hx4 := hid ((qwr.widen (R' := (fun k => (R k) ∨ (New u1_0 u1_1a k))) (fun _ h => h) (Nat.le_refl _)).mod hr (by intro k h1 h2; rcases h1 with h1 | h1 <;> first | omega | (have hb := HBR.out k h1; omega)))
  have Cx5 := hid (Cx2.out.goM hm hr (fun _ _ h => h))
  clear Cx2 hm hr Z act E qwr Hx3
  refine QChain.go fun Z act E => ?_
  refine qc_callF (args := #[.pointer (some ⟨g, 0, none⟩), .int .i64 b]) rfl (wanted_none rfl) rfl Try.func64 (args2 (E.d 3) (E.d 5)) (WInt_Q Hx4.out HB.out (by have := HL.out; simp only [List.length_append] at this ⊢; omega)) ?_
  rintro e u1_2a ⟨rfl, qwr, hm⟩
  have zu1_2a := hm.size
  refine ⟨_, rfl, hm.mono (by intro k hk h; rcases h with h | h <;> first | omega | exact Or.inl ⟨(by have hb := HBR.out k h; omega), Or.inr (⟨rfl, h⟩)⟩), (fun _ => rfl), ?_⟩
  intro u1_2 hr
  have zu1_2 := hr.size
  have Hx6 := hid ((qwr.widen (R' := (fun k => (R k) ∨ (New u1_0 u1_1a k) ∨ (New u1_1 u1_2a k))) (by intro k h1; simp only [or_assoc] at h1 ⊢; exact h1) (Nat.le_refl _)).mod hr (by intro k h1 h2; rcases h1 with h1 | h1 | h1 <;> first | omega | (have hb := HBR.out k h1; omega)))
  have Cx7 := hid (Cx5.out.goM hm hr (by intro k h0 h2; rcases h2 with h2 | h2 <;> first | omega | exact h2))
  clear Cx5 hm hr Z act E qwr Hx4
  refine QChain.nil fun vs hl hzz hrows hne => ?_
  obtain ⟨Z, hYZ, hZb, hV⟩ := hzz
  have f0 := fvi hV hl 0
  have f3 := fvi hV hl 3
  have f6 := fvi hV hl 6
  rw [show vs = [gw vs 0, gw vs 1, gw vs 2, gw vs 3, gw vs 4, gw vs 5, gw vs 6] from (gw_eta hl).trans rfl]
  have ha0 := HA0.out
  subst ha0
  clear HA0 hV hYZ hZb hsz0 hrows hne oe0 oe3
  simp only [putAll, Act.put, List.setIfInBounds_toArray, List.set_cons_zero, List.set_cons_succ, f0, f3, f6]
  clear hl f0 f3 f6
  go_wp2
  go_end0
  have hq := (Hx6.out.widen (R' := (fun k => R k ∨ New w u1_2 k)) (by intro k h1; rcases h1 with h1 | h1 | h1 <;> first | exact Or.inl h1 | (right; omega)) (Nat.le_refl _))
  simp only [List.append_assoc] at hq
  exact ⟨rfl, by simpa only [sigB, List.append_assoc] using hq, (HM0.out.trans Cx7.out (fun _ _ h => h))⟩
set_option maxHeartbeats 2000000 in
theorem PutName_Q {R : Nat → Prop} {g : Nat} {bs : List Int} {a b : Int} {w : World} (hW : WrR R 900000 w g bs) (hB : ∀ k, R k → k < w.heap.size) (ha : I64 a) (hb : I64 b) (hl : (bs ++ nameB a b).length ≤ 900000) :
    Calls Try.prog 65 #[.pointer (some ⟨g, 0, none⟩), .agg #[.int .i64 a, .int .i64 b]] w fun e w' => e = .returned (.tuple #[]) ∧ WrR (fun k => R k ∨ New w w' k) 900000 w' g (bs ++ nameB a b) ∧ Mod R w w' := by
  have HW := Lib.hid hW
  have HBR := Lib.hid hB
  have HL := hid (show (bs ++ (encI a ++ encI b)).length ≤ 900000 from hl)
  have HA := Lib.hid ha
  have HB := Lib.hid hb
  clear hW hB hl ha hb
  change Calls _ _ #[.pointer (some ⟨g, 0, none⟩), .agg #[.int .i64 a, .int .i64 b]] _ _
  go_enter Try.func65, Try.ntmps65
  go_upto_region 1 with (fail)
  obtain ⟨w1, hw1⟩ : ∃ zz, zz = (w.alloc (.cells #[.int .i64 a, .int .i64 b] 23)) := ⟨_, rfl⟩
  change Code.wp _ _ _ _ (w.alloc (.cells #[.int .i64 a, .int .i64 b] 23))
  rw [← hw1]
  have HB3 := hid (show Cs w1 (w.heap.size) #[.int .i64 a, .int .i64 b] 23 by rw [hw1]; exact Cs.new _ _ _)
  have hm : Mod (fun _ => False) w w1 := by rw [hw1]; exact (Mod.refl _ _).alloc _
  have HM0 := hid (show Mod (fun k => (R k)) w w1 from hm.mono (fun _ _ h => h.elim))
  have hs1 : w1.heap.size = w.heap.size + 1 := by rw [hw1]; simp
  have Hx1 := hid (HW.out.mod hm (fun _ _ h => h))
  clear HW
  clear hw1 hm
  go_upto_region 1 with (fail)
  generalize ha0 : Act.mk _ _ = a0
  have oe0 : a0.eval (.tmp 0) = .pointer (some ⟨g, 0, none⟩) := by rw [← ha0]; rfl
  have oe3 : a0.eval (.tmp 3) = .pointer (some ⟨w.heap.size, 0, none⟩) := by rw [← ha0]; rfl
  have hsz0 : a0.tmps.size = 11 := by rw [← ha0]; rfl
  have HA0 := hid ha0
  clear ha0
  refine wp_region_Q1 11 hsz0 [4, 5, 6, 7, 8, 9, 10] (fun k => (R k)) (fun k j => (k = 0 ∧ ((R j))) ∨ (k = 1 ∧ ((R j)))) (by intro k j h; (try dsimp only at h ⊢); rcases h with ⟨-, h⟩ | ⟨-, h⟩; (exact h); (exact h)) [qi (.pointer (some ⟨g, 0, none⟩)), qi (.pointer (some ⟨w.heap.size, 0, none⟩)), qi (.int .i64 a), qi (.pointer (some ⟨g, 0, none⟩)), qi (.pointer (some ⟨w.heap.size, 1, none⟩)), qi (.int .i64 b), qi (.pointer (some ⟨g, 0, none⟩))] ⟨qi_stable, qi_stable, qi_stable, qi_stable, qi_stable, qi_stable, qi_stable, trivial⟩ [3, 6] ⟨?_, ?_, ?_, ?_, ?_, ?_, ?_, trivial⟩ ?_
  · exact stq (fun E => ex_move rfl (E.v oe0))
  · exact stq (fun E => ex_field rfl Try.underlying23 rfl (by kernel_rfl) (E.v oe3))
  · exact stq (fun E => ex_load1 rfl Try.underlying3 rfl (E.d 1) (Cs.lit1 (HB3.out.mod E.m (by intro h2; rcases h2 with ⟨h0, h2⟩ | h2 <;> first | omega | (have hb := HBR.out _ h2; omega))) rfl))
  · exact stepq_chain rfl
  · exact stq (fun E => ex_field rfl Try.underlying23 rfl (by kernel_rfl) (E.v oe3))
  · exact stq (fun E => ex_load1 rfl Try.underlying3 rfl (E.d 4) (Cs.lit1 (HB3.out.mod E.m (by intro h2; rcases h2 with ⟨h0, h2⟩ | h2 <;> first | omega | (have hb := HBR.out _ h2; omega))) rfl))
  · exact stepq_chain rfl
  intro u1_0 hr
  have zu1_0 := hr.size
  have Cx2 := hid (hr.new (S := (fun k => (R k))))
  have Hx3 := hid (Hx1.out.mod hr (by intro k h1 h2; have hb := HBR.out k h1; omega))
  clear Hx1
  clear hr
  refine QChain.go fun Z act E => ?_
  refine qc_callF (args := #[.pointer (some ⟨g, 0, none⟩), .int .i64 a]) rfl (wanted_none rfl) rfl Try.func64 (args2 (E.d 0) (E.d 2)) (WInt_Q Hx3.out HA.out (by have := HL.out; simp only [List.length_append] at this ⊢; omega)) ?_
  rintro e u1_1a ⟨rfl, qwr, hm⟩
  have zu1_1a := hm.size
  refine ⟨_, rfl, hm.mono (by intro k hk h; first | omega | exact Or.inl ⟨(by have hb := HBR.out k h; omega), Or.inl ⟨rfl, h⟩⟩), (fun _ => rfl), ?_⟩
  intro u1_1 hr
  have zu1_1 := hr.size
  have Hx4 := hid ((qwr.widen (R' := (fun k => (R k) ∨ (New u1_0 u1_1a k))) (fun _ h => h) (Nat.le_refl _)).mod hr (by intro k h1 h2; rcases h1 with h1 | h1 <;> first | omega | (have hb := HBR.out k h1; omega)))
  have Cx5 := hid (Cx2.out.goM hm hr (fun _ _ h => h))
  clear Cx2 hm hr Z act E qwr Hx3
  refine QChain.go fun Z act E => ?_
  refine qc_callF (args := #[.pointer (some ⟨g, 0, none⟩), .int .i64 b]) rfl (wanted_none rfl) rfl Try.func64 (args2 (E.d 3) (E.d 5)) (WInt_Q Hx4.out HB.out (by have := HL.out; simp only [List.length_append] at this ⊢; omega)) ?_
  rintro e u1_2a ⟨rfl, qwr, hm⟩
  have zu1_2a := hm.size
  refine ⟨_, rfl, hm.mono (by intro k hk h; rcases h with h | h <;> first | omega | exact Or.inl ⟨(by have hb := HBR.out k h; omega), Or.inr (⟨rfl, h⟩)⟩), (fun _ => rfl), ?_⟩
  intro u1_2 hr
  have zu1_2 := hr.size
  have Hx6 := hid ((qwr.widen (R' := (fun k => (R k) ∨ (New u1_0 u1_1a k) ∨ (New u1_1 u1_2a k))) (by intro k h1; simp only [or_assoc] at h1 ⊢; exact h1) (Nat.le_refl _)).mod hr (by intro k h1 h2; rcases h1 with h1 | h1 | h1 <;> first | omega | (have hb := HBR.out k h1; omega)))
  have Cx7 := hid (Cx5.out.goM hm hr (by intro k h0 h2; rcases h2 with h2 | h2 <;> first | omega | exact h2))
  clear Cx5 hm hr Z act E qwr Hx4
  refine QChain.nil fun vs hl hzz hrows hne => ?_
  obtain ⟨Z, hYZ, hZb, hV⟩ := hzz
  have f0 := fvi hV hl 0
  have f3 := fvi hV hl 3
  have f6 := fvi hV hl 6
  rw [show vs = [gw vs 0, gw vs 1, gw vs 2, gw vs 3, gw vs 4, gw vs 5, gw vs 6] from (gw_eta hl).trans rfl]
  have ha0 := HA0.out
  subst ha0
  clear HA0 hV hYZ hZb hsz0 hrows hne oe0 oe3
  simp only [putAll, Act.put, List.setIfInBounds_toArray, List.set_cons_zero, List.set_cons_succ, f0, f3, f6]
  clear hl f0 f3 f6
  go_wp2
  go_end0
  have hq := (Hx6.out.widen (R' := (fun k => R k ∨ New w u1_2 k)) (by intro k h1; rcases h1 with h1 | h1 | h1 <;> first | exact Or.inl h1 | (right; omega)) (Nat.le_refl _))
  simp only [List.append_assoc] at hq
  exact ⟨rfl, by simpa only [nameB, List.append_assoc] using hq, (HM0.out.trans Cx7.out (fun _ _ h => h))⟩
set_option maxHeartbeats 4000000 in
theorem PutCm_Q : Puts CmR 139 cmB := by
  intro R R2 g bs cs x w hW hB hx hB2 hD hl
  obtain ⟨rfl, hok⟩ := hx
  have HW := Lib.hid hW
  have HBR := Lib.hid hB
  have HBT := Lib.hid hB2
  have HDJ := Lib.hid hD
  have HOK := Lib.hid hok
  have HL := Lib.hid hl
  clear hW hB hB2 hD hl hok
  unfold cmB at HL
  go_enter Try.func139, Try.ntmps139
  go_upto_region 1 with (fail)
  obtain ⟨w1, hw1⟩ : ∃ zz, zz = (w.alloc (.cells (x.cells : List Value).toArray 49)) := ⟨_, rfl⟩
  change Code.wp _ _ _ _ (w.alloc (.cells (x.cells : List Value).toArray 49))
  rw [← hw1]
  have HB3 := hid (show Cs w1 (w.heap.size) (x.cells : List Value).toArray 49 by rw [hw1]; exact Cs.new _ _ _)
  have hm : Mod (fun _ => False) w w1 := by rw [hw1]; exact (Mod.refl _ _).alloc _
  have HM0 := hid (show Mod (fun k => (R k)) w w1 from hm.mono (fun _ _ h => h.elim))
  have hs1 : w1.heap.size = w.heap.size + 1 := by rw [hw1]; simp
  have Hx1 := hid (HW.out.mod hm (fun _ _ h => h))
  clear HW
  clear hw1 hm
  go_upto_region 1 with (fail)
  generalize ha0 : Act.mk _ _ = a0
  have oe0 : a0.eval (.tmp 0) = .pointer (some ⟨g, 0, none⟩) := by rw [← ha0]; rfl
  have oe3 : a0.eval (.tmp 3) = .pointer (some ⟨w.heap.size, 0, none⟩) := by rw [← ha0]; rfl
  have hsz0 : a0.tmps.size = 19 := by rw [← ha0]; rfl
  have HA0 := hid ha0
  clear ha0
  refine wp_region_Q1 19 hsz0 [4, 5, 6, 7] (fun k => (R k)) (fun k j => (k = 0 ∧ ((R j)))) (fun _ _ h => h.2) [qi (.pointer (some ⟨g, 0, none⟩)), qi (.pointer (some ⟨w.heap.size, 0, none⟩)), qi (.agg #[.int .i64 x.cl, .int .i64 x.sq]), qi (.tuple #[])] ⟨qi_stable, qi_stable, qi_stable, qi_stable, trivial⟩ [3] ⟨?_, ?_, ?_, ?_, trivial⟩ ?_
  · exact stq (fun E => ex_move rfl (E.v oe0))
  · exact stq (fun E => ex_field rfl Try.underlying49 rfl (by kernel_rfl) (E.v oe3))
  · exact stq (fun E => ex_loadA rfl Try.underlying23 rfl (off := 0) (cs := [.int .i64 x.cl, .int .i64 x.sq]) (by kernel_rfl) (E.d 1) (Cs.preA (pre := [.int .i64 x.cl, .int .i64 x.sq]) (mid := x.h.map bv) (post := [.int .i64 x.ln, .int .i64 x.sb, .int .i64 x.mr]) (HB3.out.mod E.m (by intro h2; rcases h2 with ⟨h0, h2⟩ | h2 <;> first | omega | (have hb := HBR.out _ h2; omega))) rfl))
  · exact stepq_chain rfl
  intro u1_0 hr
  have zu1_0 := hr.size
  have Cx2 := hid (hr.new (S := (fun k => (R k))))
  have Hx3 := hid (Hx1.out.mod hr (by intro k h1 h2; have hb := HBR.out k h1; omega))
  clear Hx1
  clear hr
  refine QChain.go fun Z act E => ?_
  refine qc_callF (args := #[.pointer (some ⟨g, 0, none⟩), .agg #[.int .i64 x.cl, .int .i64 x.sq]]) rfl (wanted_none rfl) rfl Try.func65 (args2 (E.d 0) (E.d 2)) (PutName_Q Hx3.out (by intro k h1; have hb := HBR.out k h1; omega) HOK.out.1.1 HOK.out.1.2.1 (by have := HL.out; simp only [List.length_append] at this ⊢; omega)) ?_
  rintro e u1_1a ⟨rfl, qwr, hm⟩
  have zu1_1a := hm.size
  refine ⟨_, rfl, hm.mono (by intro k hk h; first | omega | exact Or.inl ⟨(by have hb := HBR.out k h; omega), ⟨rfl, h⟩⟩), (fun _ => rfl), ?_⟩
  intro u1_1 hr
  have zu1_1 := hr.size
  have Hx4 := hid ((qwr.widen (R' := (fun k => (R k) ∨ (New u1_0 u1_1a k))) (fun _ h => h) (Nat.le_refl _)).mod hr (by intro k h1 h2; rcases h1 with h1 | h1 <;> first | omega | (have hb := HBR.out k h1; omega)))
  have Cx5 := hid (Cx2.out.goM hm hr (fun _ _ h => h))
  clear Cx2 hm hr Z act E qwr Hx3
  refine QChain.nil fun vs hl hzz hrows hne => ?_
  obtain ⟨Z, hYZ, hZb, hV⟩ := hzz
  have f0 := fvi hV hl 0
  have f3 := fvi hV hl 3
  rw [show vs = [gw vs 0, gw vs 1, gw vs 2, gw vs 3] from (gw_eta hl).trans rfl]
  have ha0 := HA0.out
  subst ha0
  clear HA0 hV hYZ hZb hsz0 hrows hne oe0 oe3
  simp only [putAll, Act.put, List.setIfInBounds_toArray, List.set_cons_zero, List.set_cons_succ, f0, f3]
  clear hl f0 f3
  go_upto_region 2 with (fail)
  generalize ha0 : Act.mk _ _ = a0
  have oe0 : a0.eval (.tmp 0) = .pointer (some ⟨g, 0, none⟩) := by rw [← ha0]; rfl
  have oe3 : a0.eval (.tmp 3) = .pointer (some ⟨w.heap.size, 0, none⟩) := by rw [← ha0]; rfl
  have hsz0 : a0.tmps.size = 19 := by rw [← ha0]; rfl
  have HA0 := hid ha0
  clear ha0
  refine wp_region_Q1 19 hsz0 [8, 9, 10, 11, 12, 13, 14] (fun k => (R k) ∨ (New u1_0 u1_1a k)) (fun k j => (k = 0 ∧ ((R j) ∨ (New u1_0 u1_1a j))) ∨ (k = 1 ∧ ((R j) ∨ (New u1_0 u1_1a j)))) (by intro k j h; (try dsimp only at h ⊢); rcases h with ⟨-, h | h⟩ | ⟨-, h | h⟩; (exact Or.inl (h)); (exact Or.inr (h)); (exact Or.inl (h)); (exact Or.inr (h))) [qi (.pointer (some ⟨g, 0, none⟩)), qi (.pointer (some ⟨w.heap.size, 2, none⟩)), qi (hv x.h), qi (.pointer (some ⟨g, 0, none⟩)), qi (.pointer (some ⟨w.heap.size, 34, none⟩)), qi (.int .i64 x.ln), qi (.pointer (some ⟨g, 0, none⟩))] ⟨qi_stable, qi_stable, qi_stable, qi_stable, qi_stable, qi_stable, qi_stable, trivial⟩ [3, 6] ⟨?_, ?_, ?_, ?_, ?_, ?_, ?_, trivial⟩ ?_
  · exact stq (fun E => ex_move rfl (E.v oe0))
  · exact stq (fun E => ex_field rfl Try.underlying49 rfl (by kernel_rfl) (E.v oe3))
  · exact stq (fun E => ex_loadA rfl Try.underlying25 rfl (off := 2) (cs := x.h.map bv) (by rw [List.length_map, HOK.out.2.1]; exact size_hash) (E.d 1) (((HB3.out.mod Cx5.out (by intro h2; first | omega | (have hb := HBR.out _ h2; omega))).mod E.m (by intro h2; rcases h2 with ⟨h0, h2 | h2⟩ | h2 <;> first | omega | (have hb := HBR.out _ h2; omega))).hash))
  · exact stepq_chain rfl
  · exact stq (fun E => ex_field rfl Try.underlying49 rfl (by kernel_rfl) (E.v oe3))
  · exact stq (fun E => ex_load1 rfl Try.underlying3 rfl (E.d 4) (((HB3.out.mod Cx5.out (by intro h2; first | omega | (have hb := HBR.out _ h2; omega))).mod E.m (by intro h2; rcases h2 with ⟨h0, h2 | h2⟩ | h2 <;> first | omega | (have hb := HBR.out _ h2; omega))).c34 HOK.out.2.1))
  · exact stepq_chain rfl
  intro u2_0 hr
  have zu2_0 := hr.size
  have Cx6 := hid (hr.new (S := (fun k => (R k) ∨ (New u1_0 u1_1a k))))
  have Hx7 := hid (Hx4.out.mod hr (by intro k h1 h2; rcases h1 with h1 | h1 <;> first | omega | (have hb := HBR.out k h1; omega)))
  clear Hx4
  clear hr
  refine QChain.go fun Z act E => ?_
  refine qc_callF (args := #[.pointer (some ⟨g, 0, none⟩), hv x.h]) rfl (wanted_none rfl) rfl Try.func66 (args2 (E.d 0) (E.d 2)) (WHash_Q Hx7.out HOK.out.2 (by have := HL.out; simp only [List.length_append] at this ⊢; omega)) ?_
  rintro e u2_1a ⟨rfl, qwr, hm⟩
  have zu2_1a := hm.size
  refine ⟨_, rfl, hm.mono (by intro k hk h; rcases h with h | h <;> first | omega | exact Or.inl ⟨(by have hb := HBR.out k h; omega), Or.inl ⟨rfl, Or.inl h⟩⟩), (fun _ => rfl), ?_⟩
  intro u2_1 hr
  have zu2_1 := hr.size
  have Hx8 := hid ((qwr.widen (R' := (fun k => (R k) ∨ (New u1_0 u1_1a k) ∨ (New u2_0 u2_1a k))) (by intro k h1; simp only [or_assoc] at h1 ⊢; exact h1) (Nat.le_refl _)).mod hr (by intro k h1 h2; rcases h1 with h1 | h1 | h1 <;> first | omega | (have hb := HBR.out k h1; omega)))
  have Cx9 := hid (Cx6.out.goM hm hr (fun _ _ h => h))
  clear Cx6 hm hr Z act E qwr Hx7
  refine QChain.go fun Z act E => ?_
  refine qc_callF (args := #[.pointer (some ⟨g, 0, none⟩), .int .i64 x.ln]) rfl (wanted_none rfl) rfl Try.func64 (args2 (E.d 3) (E.d 5)) (WInt_Q Hx8.out HOK.out.1.2.2.1 (by have := HL.out; simp only [List.length_append] at this ⊢; omega)) ?_
  rintro e u2_2a ⟨rfl, qwr, hm⟩
  have zu2_2a := hm.size
  refine ⟨_, rfl, hm.mono (by intro k hk h; rcases h with h | h | h <;> first | omega | exact Or.inl ⟨(by have hb := HBR.out k h; omega), Or.inr (⟨rfl, Or.inl h⟩)⟩), (fun _ => rfl), ?_⟩
  intro u2_2 hr
  have zu2_2 := hr.size
  have Hx10 := hid ((qwr.widen (R' := (fun k => (R k) ∨ (New u1_0 u1_1a k) ∨ (New u2_0 u2_1a k) ∨ (New u2_1 u2_2a k))) (by intro k h1; simp only [or_assoc] at h1 ⊢; exact h1) (Nat.le_refl _)).mod hr (by intro k h1 h2; rcases h1 with h1 | h1 | h1 | h1 <;> first | omega | (have hb := HBR.out k h1; omega)))
  have Cx11 := hid (Cx9.out.goM hm hr (by intro k h0 h2; rcases h2 with h2 | h2 | h2 <;> first | omega | exact Or.inl h2 | exact Or.inr (h2)))
  clear Cx9 hm hr Z act E qwr Hx8
  refine QChain.nil fun vs hl hzz hrows hne => ?_
  obtain ⟨Z, hYZ, hZb, hV⟩ := hzz
  have f0 := fvi hV hl 0
  have f3 := fvi hV hl 3
  have f6 := fvi hV hl 6
  rw [show vs = [gw vs 0, gw vs 1, gw vs 2, gw vs 3, gw vs 4, gw vs 5, gw vs 6] from (gw_eta hl).trans rfl]
  have ha0 := HA0.out
  subst ha0
  clear HA0 hV hYZ hZb hsz0 hrows hne oe0 oe3
  simp only [putAll, Act.put, List.setIfInBounds_toArray, List.set_cons_zero, List.set_cons_succ, f0, f3, f6]
  clear hl f0 f3 f6
  go_upto_region 3 with (fail)
  generalize ha0 : Act.mk _ _ = a0
  have oe0 : a0.eval (.tmp 0) = .pointer (some ⟨g, 0, none⟩) := by rw [← ha0]; rfl
  have oe3 : a0.eval (.tmp 3) = .pointer (some ⟨w.heap.size, 0, none⟩) := by rw [← ha0]; rfl
  have hsz0 : a0.tmps.size = 19 := by rw [← ha0]; rfl
  have HA0 := hid ha0
  clear ha0
  refine wp_region_Q1 19 hsz0 [15, 16, 17, 18] (fun k => (R k) ∨ (New u1_0 u1_1a k) ∨ (New u2_0 u2_1a k) ∨ (New u2_1 u2_2a k)) (fun k j => (k = 0 ∧ ((R j) ∨ (New u1_0 u1_1a j) ∨ (New u2_0 u2_1a j) ∨ (New u2_1 u2_2a j)))) (fun _ _ h => h.2) [qi (.pointer (some ⟨g, 0, none⟩)), qi (.pointer (some ⟨w.heap.size, 35, none⟩)), qi (.agg #[.int .i64 x.sb, .int .i64 x.mr]), qi (.tuple #[])] ⟨qi_stable, qi_stable, qi_stable, qi_stable, trivial⟩ [3] ⟨?_, ?_, ?_, ?_, trivial⟩ ?_
  · exact stq (fun E => ex_move rfl (E.v oe0))
  · exact stq (fun E => ex_field rfl Try.underlying49 rfl (by kernel_rfl) (E.v oe3))
  · exact stq (fun E => ex_loadA rfl Try.underlying28 rfl (off := 35) (cs := [.int .i64 x.sb, .int .i64 x.mr]) (by kernel_rfl) (E.d 1) ((((HB3.out.mod Cx5.out (by intro h2; first | omega | (have hb := HBR.out _ h2; omega))).mod Cx11.out (by intro h2; rcases h2 with h2 | h2 <;> first | omega | (have hb := HBR.out _ h2; omega))).mod E.m (by intro h2; rcases h2 with ⟨h0, h2 | h2 | h2 | h2⟩ | h2 <;> first | omega | (have hb := HBR.out _ h2; omega))).sig HOK.out.2.1))
  · exact stepq_chain rfl
  intro u3_0 hr
  have zu3_0 := hr.size
  have Cx12 := hid (hr.new (S := (fun k => (R k) ∨ (New u1_0 u1_1a k) ∨ (New u2_0 u2_1a k) ∨ (New u2_1 u2_2a k))))
  have Hx13 := hid (Hx10.out.mod hr (by intro k h1 h2; rcases h1 with h1 | h1 | h1 | h1 <;> first | omega | (have hb := HBR.out k h1; omega)))
  clear Hx10
  clear hr
  refine QChain.go fun Z act E => ?_
  refine qc_callF (args := #[.pointer (some ⟨g, 0, none⟩), .agg #[.int .i64 x.sb, .int .i64 x.mr]]) rfl (wanted_none rfl) rfl Try.func142 (args2 (E.d 0) (E.d 2)) (PutSig_Q Hx13.out (by intro k h1; rcases h1 with h1 | h1 | h1 | h1 <;> first | omega | (have hb := HBR.out k h1; omega)) HOK.out.1.2.2.2.1 HOK.out.1.2.2.2.2 (by have := HL.out; simp only [List.length_append] at this ⊢; omega)) ?_
  rintro e u3_1a ⟨rfl, qwr, hm⟩
  have zu3_1a := hm.size
  refine ⟨_, rfl, hm.mono (by intro k hk h; rcases h with h | h | h | h <;> first | omega | exact Or.inl ⟨(by have hb := HBR.out k h; omega), ⟨rfl, Or.inl h⟩⟩), (fun _ => rfl), ?_⟩
  intro u3_1 hr
  have zu3_1 := hr.size
  have Hx14 := hid ((qwr.widen (R' := (fun k => (R k) ∨ (New u1_0 u1_1a k) ∨ (New u2_0 u2_1a k) ∨ (New u2_1 u2_2a k) ∨ (New u3_0 u3_1a k))) (by intro k h1; simp only [or_assoc] at h1 ⊢; exact h1) (Nat.le_refl _)).mod hr (by intro k h1 h2; rcases h1 with h1 | h1 | h1 | h1 | h1 <;> first | omega | (have hb := HBR.out k h1; omega)))
  have Cx15 := hid (Cx12.out.goM hm hr (fun _ _ h => h))
  clear Cx12 hm hr Z act E qwr Hx13
  refine QChain.nil fun vs hl hzz hrows hne => ?_
  obtain ⟨Z, hYZ, hZb, hV⟩ := hzz
  have f0 := fvi hV hl 0
  have f3 := fvi hV hl 3
  rw [show vs = [gw vs 0, gw vs 1, gw vs 2, gw vs 3] from (gw_eta hl).trans rfl]
  have ha0 := HA0.out
  subst ha0
  clear HA0 hV hYZ hZb hsz0 hrows hne oe0 oe3
  simp only [putAll, Act.put, List.setIfInBounds_toArray, List.set_cons_zero, List.set_cons_succ, f0, f3]
  clear hl f0 f3
  go_wp2
  go_end0
  have hq := (Hx14.out.widen (R' := (fun k => R k ∨ New w u3_1 k)) (by intro k h1; rcases h1 with h1 | h1 | h1 | h1 | h1 <;> first | exact Or.inl h1 | (right; omega)) (Nat.le_refl _))
  simp only [List.append_assoc] at hq
  exact ⟨rfl, by simpa only [cmB, List.append_assoc] using hq, (((HM0.out.trans Cx5.out (fun _ _ h => h)).trans Cx11.out (by intro k h1 h2; rcases h2 with h2 | h2 <;> first | exact h2 | omega | (have hb := HBR.out k h2; omega))).trans Cx15.out (by intro k h1 h2; rcases h2 with h2 | h2 | h2 | h2 <;> first | exact h2 | omega | (have hb := HBR.out k h2; omega)))⟩
set_option maxHeartbeats 4000000 in
theorem PutSt_Q : Puts StR 141 stB := by
  intro R R2 g bs cs x w hW hB hx hB2 hD hl
  obtain ⟨rfl, hok⟩ := hx
  have HW := Lib.hid hW
  have HBR := Lib.hid hB
  have HBT := Lib.hid hB2
  have HDJ := Lib.hid hD
  have HOK := Lib.hid hok
  have HL := Lib.hid hl
  clear hW hB hB2 hD hl hok
  unfold stB at HL
  go_enter Try.func141, Try.ntmps141
  go_upto_region 1 with (fail)
  obtain ⟨w1, hw1⟩ : ∃ zz, zz = (w.alloc (.cells (x.cells : List Value).toArray 30)) := ⟨_, rfl⟩
  change Code.wp _ _ _ _ (w.alloc (.cells (x.cells : List Value).toArray 30))
  rw [← hw1]
  have HB3 := hid (show Cs w1 (w.heap.size) (x.cells : List Value).toArray 30 by rw [hw1]; exact Cs.new _ _ _)
  have hm : Mod (fun _ => False) w w1 := by rw [hw1]; exact (Mod.refl _ _).alloc _
  have HM0 := hid (show Mod (fun k => (R k)) w w1 from hm.mono (fun _ _ h => h.elim))
  have hs1 : w1.heap.size = w.heap.size + 1 := by rw [hw1]; simp
  have Hx1 := hid (HW.out.mod hm (fun _ _ h => h))
  clear HW
  clear hw1 hm
  go_upto_region 1 with (fail)
  generalize ha0 : Act.mk _ _ = a0
  have oe0 : a0.eval (.tmp 0) = .pointer (some ⟨g, 0, none⟩) := by rw [← ha0]; rfl
  have oe3 : a0.eval (.tmp 3) = .pointer (some ⟨w.heap.size, 0, none⟩) := by rw [← ha0]; rfl
  have hsz0 : a0.tmps.size = 23 := by rw [← ha0]; rfl
  have HA0 := hid ha0
  clear ha0
  refine wp_region_Q1 23 hsz0 [4, 5, 6, 7] (fun k => (R k)) (fun k j => (k = 0 ∧ ((R j)))) (fun _ _ h => h.2) [qi (.pointer (some ⟨g, 0, none⟩)), qi (.pointer (some ⟨w.heap.size, 0, none⟩)), qi (.int .i64 x.rp), qi (.pointer (some ⟨g, 0, none⟩))] ⟨qi_stable, qi_stable, qi_stable, qi_stable, trivial⟩ [3] ⟨?_, ?_, ?_, ?_, trivial⟩ ?_
  · exact stq (fun E => ex_move rfl (E.v oe0))
  · exact stq (fun E => ex_field rfl Try.underlying30 rfl (by kernel_rfl) (E.v oe3))
  · exact stq (fun E => ex_load1 rfl Try.underlying3 rfl (E.d 1) (Cs.pre1 (HB3.out.mod E.m (by intro h2; rcases h2 with ⟨h0, h2⟩ | h2 <;> first | omega | (have hb := HBR.out _ h2; omega))) rfl))
  · exact stepq_chain rfl
  intro u1_0 hr
  have zu1_0 := hr.size
  have Cx2 := hid (hr.new (S := (fun k => (R k))))
  have Hx3 := hid (Hx1.out.mod hr (by intro k h1 h2; have hb := HBR.out k h1; omega))
  clear Hx1
  clear hr
  refine QChain.go fun Z act E => ?_
  refine qc_callF (args := #[.pointer (some ⟨g, 0, none⟩), .int .i64 x.rp]) rfl (wanted_none rfl) rfl Try.func64 (args2 (E.d 0) (E.d 2)) (WInt_Q Hx3.out HOK.out.rp (by have := HL.out; simp only [List.length_append] at this ⊢; omega)) ?_
  rintro e u1_1a ⟨rfl, qwr, hm⟩
  have zu1_1a := hm.size
  refine ⟨_, rfl, hm.mono (by intro k hk h; first | omega | exact Or.inl ⟨(by have hb := HBR.out k h; omega), ⟨rfl, h⟩⟩), (fun _ => rfl), ?_⟩
  intro u1_1 hr
  have zu1_1 := hr.size
  have Hx4 := hid ((qwr.widen (R' := (fun k => (R k) ∨ (New u1_0 u1_1a k))) (fun _ h => h) (Nat.le_refl _)).mod hr (by intro k h1 h2; rcases h1 with h1 | h1 <;> first | omega | (have hb := HBR.out k h1; omega)))
  have Cx5 := hid (Cx2.out.goM hm hr (fun _ _ h => h))
  clear Cx2 hm hr Z act E qwr Hx3
  refine QChain.nil fun vs hl hzz hrows hne => ?_
  obtain ⟨Z, hYZ, hZb, hV⟩ := hzz
  have f0 := fvi hV hl 0
  have f3 := fvi hV hl 3
  rw [show vs = [gw vs 0, gw vs 1, gw vs 2, gw vs 3] from (gw_eta hl).trans rfl]
  have ha0 := HA0.out
  subst ha0
  clear HA0 hV hYZ hZb hsz0 hrows hne oe0 oe3
  simp only [putAll, Act.put, List.setIfInBounds_toArray, List.set_cons_zero, List.set_cons_succ, f0, f3]
  clear hl f0 f3
  go_upto_region 2 with (fail)
  generalize ha0 : Act.mk _ _ = a0
  have oe0 : a0.eval (.tmp 0) = .pointer (some ⟨g, 0, none⟩) := by rw [← ha0]; rfl
  have oe3 : a0.eval (.tmp 3) = .pointer (some ⟨w.heap.size, 0, none⟩) := by rw [← ha0]; rfl
  have hsz0 : a0.tmps.size = 23 := by rw [← ha0]; rfl
  have HA0 := hid ha0
  clear ha0
  refine wp_region_Q1 23 hsz0 [8, 9, 10, 11] (fun k => (R k) ∨ (New u1_0 u1_1a k)) (fun k j => (k = 0 ∧ ((R j) ∨ (New u1_0 u1_1a j)))) (fun _ _ h => h.2) [qi (.pointer (some ⟨g, 0, none⟩)), qi (.pointer (some ⟨w.heap.size, 1, none⟩)), qi (.agg #[.int .i64 x.cl, .int .i64 x.sq]), qi (.tuple #[])] ⟨qi_stable, qi_stable, qi_stable, qi_stable, trivial⟩ [3] ⟨?_, ?_, ?_, ?_, trivial⟩ ?_
  · exact stq (fun E => ex_move rfl (E.v oe0))
  · exact stq (fun E => ex_field rfl Try.underlying30 rfl (by kernel_rfl) (E.v oe3))
  · exact stq (fun E => ex_loadA rfl Try.underlying23 rfl (off := 1) (cs := [.int .i64 x.cl, .int .i64 x.sq]) (by kernel_rfl) (E.d 1) (Cs.preA ((HB3.out.mod Cx5.out (by intro h2; first | omega | (have hb := HBR.out _ h2; omega))).mod E.m (by intro h2; rcases h2 with ⟨h0, h2 | h2⟩ | h2 <;> first | omega | (have hb := HBR.out _ h2; omega))) rfl))
  · exact stepq_chain rfl
  intro u2_0 hr
  have zu2_0 := hr.size
  have Cx6 := hid (hr.new (S := (fun k => (R k) ∨ (New u1_0 u1_1a k))))
  have Hx7 := hid (Hx4.out.mod hr (by intro k h1 h2; rcases h1 with h1 | h1 <;> first | omega | (have hb := HBR.out k h1; omega)))
  clear Hx4
  clear hr
  refine QChain.go fun Z act E => ?_
  refine qc_callF (args := #[.pointer (some ⟨g, 0, none⟩), .agg #[.int .i64 x.cl, .int .i64 x.sq]]) rfl (wanted_none rfl) rfl Try.func65 (args2 (E.d 0) (E.d 2)) (PutName_Q Hx7.out (by intro k h1; rcases h1 with h1 | h1 <;> first | omega | (have hb := HBR.out k h1; omega)) HOK.out.cl HOK.out.sq (by have := HL.out; simp only [List.length_append] at this ⊢; omega)) ?_
  rintro e u2_1a ⟨rfl, qwr, hm⟩
  have zu2_1a := hm.size
  refine ⟨_, rfl, hm.mono (by intro k hk h; rcases h with h | h <;> first | omega | exact Or.inl ⟨(by have hb := HBR.out k h; omega), ⟨rfl, Or.inl h⟩⟩), (fun _ => rfl), ?_⟩
  intro u2_1 hr
  have zu2_1 := hr.size
  have Hx8 := hid ((qwr.widen (R' := (fun k => (R k) ∨ (New u1_0 u1_1a k) ∨ (New u2_0 u2_1a k))) (by intro k h1; simp only [or_assoc] at h1 ⊢; exact h1) (Nat.le_refl _)).mod hr (by intro k h1 h2; rcases h1 with h1 | h1 | h1 <;> first | omega | (have hb := HBR.out k h1; omega)))
  have Cx9 := hid (Cx6.out.goM hm hr (fun _ _ h => h))
  clear Cx6 hm hr Z act E qwr Hx7
  refine QChain.nil fun vs hl hzz hrows hne => ?_
  obtain ⟨Z, hYZ, hZb, hV⟩ := hzz
  have f0 := fvi hV hl 0
  have f3 := fvi hV hl 3
  rw [show vs = [gw vs 0, gw vs 1, gw vs 2, gw vs 3] from (gw_eta hl).trans rfl]
  have ha0 := HA0.out
  subst ha0
  clear HA0 hV hYZ hZb hsz0 hrows hne oe0 oe3
  simp only [putAll, Act.put, List.setIfInBounds_toArray, List.set_cons_zero, List.set_cons_succ, f0, f3]
  clear hl f0 f3
  go_upto_region 3 with (fail)
  generalize ha0 : Act.mk _ _ = a0
  have oe0 : a0.eval (.tmp 0) = .pointer (some ⟨g, 0, none⟩) := by rw [← ha0]; rfl
  have oe3 : a0.eval (.tmp 3) = .pointer (some ⟨w.heap.size, 0, none⟩) := by rw [← ha0]; rfl
  have hsz0 : a0.tmps.size = 23 := by rw [← ha0]; rfl
  have HA0 := hid ha0
  clear ha0
  refine wp_region_Q1 23 hsz0 [12, 13, 14, 15, 16, 17, 18] (fun k => (R k) ∨ (New u1_0 u1_1a k) ∨ (New u2_0 u2_1a k)) (fun k j => (k = 0 ∧ ((R j) ∨ (New u1_0 u1_1a j) ∨ (New u2_0 u2_1a j))) ∨ (k = 1 ∧ ((R j) ∨ (New u1_0 u1_1a j) ∨ (New u2_0 u2_1a j)))) (by intro k j h; (try dsimp only at h ⊢); rcases h with ⟨-, h | h | h⟩ | ⟨-, h | h | h⟩; (exact Or.inl (h)); (exact Or.inr (Or.inl (h))); (exact Or.inr (Or.inr (h))); (exact Or.inl (h)); (exact Or.inr (Or.inl (h))); (exact Or.inr (Or.inr (h)))) [qi (.pointer (some ⟨g, 0, none⟩)), qi (.pointer (some ⟨w.heap.size, 3, none⟩)), qi (hv x.h), qi (.pointer (some ⟨g, 0, none⟩)), qi (.pointer (some ⟨w.heap.size, 35, none⟩)), qi (.int .u64 (x.tm : Nat)), qi (.pointer (some ⟨g, 0, none⟩))] ⟨qi_stable, qi_stable, qi_stable, qi_stable, qi_stable, qi_stable, qi_stable, trivial⟩ [3, 6] ⟨?_, ?_, ?_, ?_, ?_, ?_, ?_, trivial⟩ ?_
  · exact stq (fun E => ex_move rfl (E.v oe0))
  · exact stq (fun E => ex_field rfl Try.underlying30 rfl (by kernel_rfl) (E.v oe3))
  · exact stq (fun E => ex_loadA rfl Try.underlying25 rfl (off := 3) (cs := x.h.map bv) (by rw [List.length_map, HOK.out.h.1]; exact size_hash) (E.d 1) (Cs.midA (((HB3.out.mod Cx5.out (by intro h2; first | omega | (have hb := HBR.out _ h2; omega))).mod Cx9.out (by intro h2; rcases h2 with h2 | h2 <;> first | omega | (have hb := HBR.out _ h2; omega))).mod E.m (by intro h2; rcases h2 with ⟨h0, h2 | h2 | h2⟩ | h2 <;> first | omega | (have hb := HBR.out _ h2; omega))) rfl))
  · exact stepq_chain rfl
  · exact stq (fun E => ex_field rfl Try.underlying30 rfl (by kernel_rfl) (E.v oe3))
  · exact stq (fun E => ex_load1 rfl Try.underlying26 rfl (E.d 4) (Cs.post1 (m := 32) (k := 0) (((HB3.out.mod Cx5.out (by intro h2; first | omega | (have hb := HBR.out _ h2; omega))).mod Cx9.out (by intro h2; rcases h2 with h2 | h2 <;> first | omega | (have hb := HBR.out _ h2; omega))).mod E.m (by intro h2; rcases h2 with ⟨h0, h2 | h2 | h2⟩ | h2 <;> first | omega | (have hb := HBR.out _ h2; omega))) (by rw [List.length_map]; exact HOK.out.h.1) rfl rfl))
  · exact stepq_chain rfl
  intro u3_0 hr
  have zu3_0 := hr.size
  have Cx10 := hid (hr.new (S := (fun k => (R k) ∨ (New u1_0 u1_1a k) ∨ (New u2_0 u2_1a k))))
  have Hx11 := hid (Hx8.out.mod hr (by intro k h1 h2; rcases h1 with h1 | h1 | h1 <;> first | omega | (have hb := HBR.out k h1; omega)))
  clear Hx8
  clear hr
  refine QChain.go fun Z act E => ?_
  refine qc_callF (args := #[.pointer (some ⟨g, 0, none⟩), hv x.h]) rfl (wanted_none rfl) rfl Try.func66 (args2 (E.d 0) (E.d 2)) (WHash_Q Hx11.out HOK.out.h (by have := HL.out; simp only [List.length_append] at this ⊢; omega)) ?_
  rintro e u3_1a ⟨rfl, qwr, hm⟩
  have zu3_1a := hm.size
  refine ⟨_, rfl, hm.mono (by intro k hk h; rcases h with h | h | h <;> first | omega | exact Or.inl ⟨(by have hb := HBR.out k h; omega), Or.inl ⟨rfl, Or.inl h⟩⟩), (fun _ => rfl), ?_⟩
  intro u3_1 hr
  have zu3_1 := hr.size
  have Hx12 := hid ((qwr.widen (R' := (fun k => (R k) ∨ (New u1_0 u1_1a k) ∨ (New u2_0 u2_1a k) ∨ (New u3_0 u3_1a k))) (by intro k h1; simp only [or_assoc] at h1 ⊢; exact h1) (Nat.le_refl _)).mod hr (by intro k h1 h2; rcases h1 with h1 | h1 | h1 | h1 <;> first | omega | (have hb := HBR.out k h1; omega)))
  have Cx13 := hid (Cx10.out.goM hm hr (fun _ _ h => h))
  clear Cx10 hm hr Z act E qwr Hx11
  refine QChain.go fun Z act E => ?_
  refine qc_callF (args := #[.pointer (some ⟨g, 0, none⟩), .int .u64 (x.tm : Nat)]) rfl (wanted_none rfl) rfl Try.func67 (args2 (E.d 3) (E.d 5)) (WNum_Q Hx12.out HOK.out.tm (by have := HL.out; simp only [List.length_append] at this ⊢; omega)) ?_
  rintro e u3_2a ⟨rfl, qwr, hm⟩
  have zu3_2a := hm.size
  refine ⟨_, rfl, hm.mono (by intro k hk h; rcases h with h | h | h | h <;> first | omega | exact Or.inl ⟨(by have hb := HBR.out k h; omega), Or.inr (⟨rfl, Or.inl h⟩)⟩), (fun _ => rfl), ?_⟩
  intro u3_2 hr
  have zu3_2 := hr.size
  have Hx14 := hid ((qwr.widen (R' := (fun k => (R k) ∨ (New u1_0 u1_1a k) ∨ (New u2_0 u2_1a k) ∨ (New u3_0 u3_1a k) ∨ (New u3_1 u3_2a k))) (by intro k h1; simp only [or_assoc] at h1 ⊢; exact h1) (Nat.le_refl _)).mod hr (by intro k h1 h2; rcases h1 with h1 | h1 | h1 | h1 | h1 <;> first | omega | (have hb := HBR.out k h1; omega)))
  have Cx15 := hid (Cx13.out.goM hm hr (by intro k h0 h2; rcases h2 with h2 | h2 | h2 | h2 <;> first | omega | exact Or.inl h2 | exact Or.inr (Or.inl h2) | exact Or.inr (Or.inr (h2))))
  clear Cx13 hm hr Z act E qwr Hx12
  refine QChain.nil fun vs hl hzz hrows hne => ?_
  obtain ⟨Z, hYZ, hZb, hV⟩ := hzz
  have f0 := fvi hV hl 0
  have f3 := fvi hV hl 3
  have f6 := fvi hV hl 6
  rw [show vs = [gw vs 0, gw vs 1, gw vs 2, gw vs 3, gw vs 4, gw vs 5, gw vs 6] from (gw_eta hl).trans rfl]
  have ha0 := HA0.out
  subst ha0
  clear HA0 hV hYZ hZb hsz0 hrows hne oe0 oe3
  simp only [putAll, Act.put, List.setIfInBounds_toArray, List.set_cons_zero, List.set_cons_succ, f0, f3, f6]
  clear hl f0 f3 f6
  go_upto_region 4 with (fail)
  generalize ha0 : Act.mk _ _ = a0
  have oe0 : a0.eval (.tmp 0) = .pointer (some ⟨g, 0, none⟩) := by rw [← ha0]; rfl
  have oe3 : a0.eval (.tmp 3) = .pointer (some ⟨w.heap.size, 0, none⟩) := by rw [← ha0]; rfl
  have hsz0 : a0.tmps.size = 23 := by rw [← ha0]; rfl
  have HA0 := hid ha0
  clear ha0
  refine wp_region_Q1 23 hsz0 [19, 20, 21, 22] (fun k => (R k) ∨ (New u1_0 u1_1a k) ∨ (New u2_0 u2_1a k) ∨ (New u3_0 u3_1a k) ∨ (New u3_1 u3_2a k)) (fun k j => (k = 0 ∧ ((R j) ∨ (New u1_0 u1_1a j) ∨ (New u2_0 u2_1a j) ∨ (New u3_0 u3_1a j) ∨ (New u3_1 u3_2a j)))) (fun _ _ h => h.2) [qi (.pointer (some ⟨g, 0, none⟩)), qi (.pointer (some ⟨w.heap.size, 36, none⟩)), qi (.agg #[.int .i64 x.sb, .int .i64 x.mr]), qi (.tuple #[])] ⟨qi_stable, qi_stable, qi_stable, qi_stable, trivial⟩ [3] ⟨?_, ?_, ?_, ?_, trivial⟩ ?_
  · exact stq (fun E => ex_move rfl (E.v oe0))
  · exact stq (fun E => ex_field rfl Try.underlying30 rfl (by kernel_rfl) (E.v oe3))
  · exact stq (fun E => ex_loadA rfl Try.underlying28 rfl (off := 36) (cs := [.int .i64 x.sb, .int .i64 x.mr]) (by kernel_rfl) (E.d 1) (Cs.postA (m := 32) (k := 1) ((((HB3.out.mod Cx5.out (by intro h2; first | omega | (have hb := HBR.out _ h2; omega))).mod Cx9.out (by intro h2; rcases h2 with h2 | h2 <;> first | omega | (have hb := HBR.out _ h2; omega))).mod Cx15.out (by intro h2; rcases h2 with h2 | h2 | h2 <;> first | omega | (have hb := HBR.out _ h2; omega))).mod E.m (by intro h2; rcases h2 with ⟨h0, h2 | h2 | h2 | h2 | h2⟩ | h2 <;> first | omega | (have hb := HBR.out _ h2; omega))) (by rw [List.length_map]; exact HOK.out.h.1) rfl rfl))
  · exact stepq_chain rfl
  intro u4_0 hr
  have zu4_0 := hr.size
  have Cx16 := hid (hr.new (S := (fun k => (R k) ∨ (New u1_0 u1_1a k) ∨ (New u2_0 u2_1a k) ∨ (New u3_0 u3_1a k) ∨ (New u3_1 u3_2a k))))
  have Hx17 := hid (Hx14.out.mod hr (by intro k h1 h2; rcases h1 with h1 | h1 | h1 | h1 | h1 <;> first | omega | (have hb := HBR.out k h1; omega)))
  clear Hx14
  clear hr
  refine QChain.go fun Z act E => ?_
  refine qc_callF (args := #[.pointer (some ⟨g, 0, none⟩), .agg #[.int .i64 x.sb, .int .i64 x.mr]]) rfl (wanted_none rfl) rfl Try.func142 (args2 (E.d 0) (E.d 2)) (PutSig_Q Hx17.out (by intro k h1; rcases h1 with h1 | h1 | h1 | h1 | h1 <;> first | omega | (have hb := HBR.out k h1; omega)) HOK.out.sb HOK.out.mr (by have := HL.out; simp only [List.length_append] at this ⊢; omega)) ?_
  rintro e u4_1a ⟨rfl, qwr, hm⟩
  have zu4_1a := hm.size
  refine ⟨_, rfl, hm.mono (by intro k hk h; rcases h with h | h | h | h | h <;> first | omega | exact Or.inl ⟨(by have hb := HBR.out k h; omega), ⟨rfl, Or.inl h⟩⟩), (fun _ => rfl), ?_⟩
  intro u4_1 hr
  have zu4_1 := hr.size
  have Hx18 := hid ((qwr.widen (R' := (fun k => (R k) ∨ (New u1_0 u1_1a k) ∨ (New u2_0 u2_1a k) ∨ (New u3_0 u3_1a k) ∨ (New u3_1 u3_2a k) ∨ (New u4_0 u4_1a k))) (by intro k h1; simp only [or_assoc] at h1 ⊢; exact h1) (Nat.le_refl _)).mod hr (by intro k h1 h2; rcases h1 with h1 | h1 | h1 | h1 | h1 | h1 <;> first | omega | (have hb := HBR.out k h1; omega)))
  have Cx19 := hid (Cx16.out.goM hm hr (fun _ _ h => h))
  clear Cx16 hm hr Z act E qwr Hx17
  refine QChain.nil fun vs hl hzz hrows hne => ?_
  obtain ⟨Z, hYZ, hZb, hV⟩ := hzz
  have f0 := fvi hV hl 0
  have f3 := fvi hV hl 3
  rw [show vs = [gw vs 0, gw vs 1, gw vs 2, gw vs 3] from (gw_eta hl).trans rfl]
  have ha0 := HA0.out
  subst ha0
  clear HA0 hV hYZ hZb hsz0 hrows hne oe0 oe3
  simp only [putAll, Act.put, List.setIfInBounds_toArray, List.set_cons_zero, List.set_cons_succ, f0, f3]
  clear hl f0 f3
  go_wp2
  go_end0
  have hq := (Hx18.out.widen (R' := (fun k => R k ∨ New w u4_1 k)) (by intro k h1; rcases h1 with h1 | h1 | h1 | h1 | h1 | h1 <;> first | exact Or.inl h1 | (right; omega)) (Nat.le_refl _))
  simp only [List.append_assoc] at hq
  exact ⟨rfl, by simpa only [stB, List.append_assoc] using hq, ((((HM0.out.trans Cx5.out (fun _ _ h => h)).trans Cx9.out (by intro k h1 h2; rcases h2 with h2 | h2 <;> first | exact h2 | omega | (have hb := HBR.out k h2; omega))).trans Cx15.out (by intro k h1 h2; rcases h2 with h2 | h2 | h2 <;> first | exact h2 | omega | (have hb := HBR.out k h2; omega))).trans Cx19.out (by intro k h1 h2; rcases h2 with h2 | h2 | h2 | h2 | h2 <;> first | exact h2 | omega | (have hb := HBR.out k h2; omega)))⟩
set_option maxHeartbeats 4000000 in
theorem PutList_St : PutsL StR 140 141 stB := by
  intro R R2 g bs v l w hW hB hs hB2 hD hl
  obtain ⟨ao, cap, rfl⟩ := hs.shape
  have hb64 : l.length ≤ maxLen := hs.bd
  rw [maxLen_val] at hb64
  have HI64 := hid (show I64 (l.length : Int) by unfold I64; omega)
  have HW := Lib.hid hW
  have HS := Lib.hid hs
  have HBR := Lib.hid hB
  have HBT := Lib.hid hB2
  have HDJ := Lib.hid hD
  have HL := Lib.hid hl
  clear hW hB hs hB2 hD hl
  unfold listB at HL
  go_enter Try.func140, Try.ntmps140
  go_upto_region 0 with (fail)
  have HM0 := hid (Mod.refl (fun k => (R k)) w)
  go_upto_region 0 with (fail)
  generalize ha0 : Act.mk _ _ = a0
  have oe0 : a0.eval (.tmp 0) = .pointer (some ⟨g, 0, none⟩) := by rw [← ha0]; rfl
  have oe1 : a0.eval (.tmp 1) = .slice ao l.length cap := by rw [← ha0]; rfl
  have hsz0 : a0.tmps.size = 23 := by rw [← ha0]; rfl
  have HA0 := hid ha0
  clear ha0
  refine wp_region_Q1 23 hsz0 [8, 9, 10, 11] (fun k => (R k)) (fun k j => (k = 0 ∧ ((R j)))) (fun _ _ h => h.2) [qi (.pointer (some ⟨g, 0, none⟩)), qi (.slice ao l.length cap), qi (.int .i64 l.length), qi (.pointer (some ⟨g, 0, none⟩))] ⟨qi_stable, qi_stable, qi_stable, qi_stable, trivial⟩ [3] ⟨?_, ?_, ?_, ?_, trivial⟩ ?_
  · exact stq (fun E => ex_move rfl (E.v oe0))
  · exact stq (fun E => ex_move rfl (E.v oe1))
  · exact stq (fun E => ex_lenS rfl (E.d 1) Try.underlying50)
  · exact stepq_chain rfl
  intro u0_0 hr
  have zu0_0 := hr.size
  have Cx1 := hid (hr.new (S := (fun k => (R k))))
  have Hx2 := hid (HW.out.mod hr (by intro k h1 h2; have hb := HBR.out k h1; omega))
  clear HW
  clear hr
  refine QChain.go fun Z act E => ?_
  refine qc_callF (args := #[.pointer (some ⟨g, 0, none⟩), .int .i64 l.length]) rfl (wanted_none rfl) rfl Try.func64 (args2 (E.d 0) (E.d 2)) (WInt_Q Hx2.out HI64.out (by have := HL.out; simp only [List.length_append] at this ⊢; omega)) ?_
  rintro e u0_1a ⟨rfl, qwr, hm⟩
  have zu0_1a := hm.size
  refine ⟨_, rfl, hm.mono (by intro k hk h; first | omega | exact Or.inl ⟨(by have hb := HBR.out k h; omega), ⟨rfl, h⟩⟩), (fun _ => rfl), ?_⟩
  intro u0_1 hr
  have zu0_1 := hr.size
  have Hx3 := hid ((qwr.widen (R' := (fun k => (R k) ∨ (New u0_0 u0_1a k))) (fun _ h => h) (Nat.le_refl _)).mod hr (by intro k h1 h2; rcases h1 with h1 | h1 <;> first | omega | (have hb := HBR.out k h1; omega)))
  have Cx4 := hid (Cx1.out.goM hm hr (fun _ _ h => h))
  clear Cx1 hm hr Z act E qwr Hx2
  refine QChain.nil fun vs hl hzz hrows hne => ?_
  obtain ⟨Z, hYZ, hZb, hV⟩ := hzz
  have f0 := fvi hV hl 0
  have f1 := fvi hV hl 1
  have f2 := fvi hV hl 2
  have f3 := fvi hV hl 3
  rw [show vs = [gw vs 0, gw vs 1, gw vs 2, gw vs 3] from (gw_eta hl).trans rfl]
  have ha0 := HA0.out
  subst ha0
  clear HA0 hV hYZ hZb hsz0 hrows hne oe0 oe1
  simp only [putAll, Act.put, List.setIfInBounds_toArray, List.set_cons_zero, List.set_cons_succ, f0, f1, f2, f3]
  clear hl f0 f1 f2 f3
  go_wp2
  go_loopw [14] (fun t wr => ∃ k : Nat, t = .int .i64 (k : Int) ∧ k ≤ l.length ∧ u0_1.heap.size ≤ wr.heap.size ∧ WrR (fun b => R b ∨ (w.heap.size ≤ b ∧ b < wr.heap.size)) 900000 wr g (bs ++ (encI l.length ++ ((l.take k).map stB).flatten)) ∧ RdS StR R2 wr (.slice ao l.length cap) l ∧ Mod R w wr) (fun t _ => l.length - (intOf t).toNat)
  case atStart => exact ⟨0, rfl, Nat.zero_le _, Nat.le_refl _, by have hq := (Hx3.out.widen (R' := (fun k => R k ∨ (w.heap.size ≤ k ∧ k < u0_1.heap.size))) (by intro k h1; rcases h1 with h1 | h1 <;> first | exact Or.inl h1 | (right; omega)) (Nat.le_refl _)); simpa only [List.take_zero, List.map_nil, List.flatten_nil, List.append_nil] using hq, (HS.out.mod Cx4.out (by intro k h1 h2; first | omega | (have hb := HBT.out k h1; omega) | (have hb := HBR.out k h2; omega) | exact HDJ.out k h1 h2 | exact HDJ.out k h2 h1 | (have hb := HBT.out k h1; have hb2 := HBR.out k h2; omega))), (HM0.out.trans Cx4.out (fun _ _ h => h))⟩
  case round =>
    obtain ⟨k, rfl, hk, hz, hw, hs, hm⟩ := hrel
    have HW2 := Lib.hid hw
    have HS2 := Lib.hid hs
    have HM2 := Lib.hid hm
    clear hw hs hm Hx3 HS HM0
    obtain ⟨wo, rfl⟩ : ∃ x, x = wr := ⟨_, rfl⟩
    by_cases hlt : k < l.length
    · skip
      obtain ⟨g0, o0, cs, rfl, hrg, hrd, hcs⟩ := HS2.out.at hlt
      have hcl : cs.length = 38 := StR.len hrd
      have HCL := Lib.hid hcl
      have HAT := hid (show CellsAt R2 wo g0 (o0 + k * 38) cs from ⟨hrg, hcs⟩)
      have HRD := Lib.hid hrd
      have HOC := hid (StR.one hrd)
      clear hcl hcs hrd hrg
      have HE : Hid (bs ++ (encI l.length ++ ((l.take k).map stB).flatten) ++ stB l[k] = bs ++ (encI l.length ++ ((l.take (k + 1)).map stB).flatten)) := hid (by rw [List.take_succ_eq_append_getElem hlt, List.map_append, List.flatten_append]; simp [List.append_assoc])
      have HLk := hid (show (bs ++ (encI l.length ++ ((l.take k).map stB).flatten) ++ stB l[k]).length ≤ 900000 by rw [HE.out]; exact Nat.le_trans (put_len _ _ _ _ _) HL.out)
      go_upto_region 3 with (fail)
      generalize ha0 : Act.mk _ _ = a0
      have oe12 : a0.eval (.tmp 12) = .slice (some ⟨g0, o0, none⟩) l.length cap := by rw [← ha0]; rfl
      have oe14 : a0.eval (.tmp 14) = .int .i64 ((k : Nat) : Int) := by rw [← ha0]; rfl
      have hsz0 : a0.tmps.size = 23 := by rw [← ha0]; rfl
      have HA0 := hid ha0
      clear ha0
      refine wp_region_Q 23 hsz0 (by kernel_rfl) (by kernel_rfl) [16, 17, 7, 26] (by kernel_rfl) (by decide) (fun _ => False) (fun _ _ => False) (fun _ _ h => h) [qi (.pointer (some ⟨g0, o0 + k * 38, none⟩)), qi (.agg cs.toArray), qa, qa] ⟨qi_stable, qi_stable, qa_stable, qa_stable, trivial⟩ [] (by kernel_rfl) (by decide) (by kernel_rfl) [⟨2, 3, 30, [.int .i64 0, .int .i64 0, .int .i64 0, .int .u8 0, .int .u8 0, .int .u8 0, .int .u8 0, .int .u8 0, .int .u8 0, .int .u8 0, .int .u8 0, .int .u8 0, .int .u8 0, .int .u8 0, .int .u8 0, .int .u8 0, .int .u8 0, .int .u8 0, .int .u8 0, .int .u8 0, .int .u8 0, .int .u8 0, .int .u8 0, .int .u8 0, .int .u8 0, .int .u8 0, .int .u8 0, .int .u8 0, .int .u8 0, .int .u8 0, .int .u8 0, .int .u8 0, .int .u8 0, .int .u8 0, .int .u8 0, .int .u64 0, .int .i64 0, .int .i64 0], 0, (fun t => cs)⟩] (by kernel_rfl) (by intro r hr; simp only [List.mem_cons, List.not_mem_nil, or_false] at hr; rcases hr with rfl <;> exact ⟨by kernel_rfl, by kernel_rfl⟩) (by intro r hr; simp only [List.mem_cons, List.not_mem_nil, or_false] at hr; rcases hr with rfl <;> exact ⟨of_decide_eq_true (by kernel_rfl), of_decide_eq_true (by kernel_rfl)⟩) (by intro r hr; simp only [List.mem_cons, List.not_mem_nil, or_false] at hr; rcases hr with rfl <;> exact fun _ _ _ _ => ⟨trivial, trivial⟩) ⟨?_, ?_, ?_, ?_, trivial⟩ ?_
      · exact stq (fun E => ex_idxS (i := k) (s := 38) rfl Try.underlying50 (by kernel_rfl) (E.v oe12) (E.v oe14) (by omega))
      · exact stq (fun E => ex_loadA rfl Try.underlying30 rfl (off := o0 + k * 38) (cs := cs) (by rw [HCL.out]; kernel_rfl) (E.d 0) (fun j u hu => ((HAT.out.mod E.m.old (by intro k h1 h2; have hb := HBT.out k h1; omega))).2 j u hu))
      · exact stepq_make rfl rfl ⟨rfl, rfl, by kernel_rfl, by kernel_rfl⟩
      · refine stepq_write rfl rfl rfl ⟨rfl, 7, (.tmp 17), rfl, by decide, rfl, by kernel_rfl, fun Z tr act w' hm hout hsz hd hpre => ?_⟩
        have h1 := hd ⟨1, .data⟩ (by simp) rfl _ rfl
        exact ⟨Nat.zero_le _, (by rw [show act.eval ((.tmp 17)) = _ from h1]; rfl), (by rw [HCL.out]; rfl), HOC.out⟩
      intro u3_0 hr
      have zu3_0 := hr.size
      have Cx5 := hid (hr.new (S := (fun _ => False)))
      clear hr
      refine QChain.nil fun vs hl hzz hrows hne => ?_
      obtain ⟨Z, hYZ, hZb, hV⟩ := hzz
      obtain ⟨q, g2, hBq, hYq, hCq⟩ := hrows _ (by simp only [List.mem_cons, List.not_mem_nil, or_false]; trivial)
      have f2 : gw vs 2 = _ := getv g2
      (try dsimp only at hBq hYq); (try simp only [false_or] at hBq hYq)
      have zqq := hCq.lt
      have Hx6 := hid (show Cs u3_0 q (cs : List Value).toArray 30 from hCq)
      rw [show vs = [gw vs 0, gw vs 1, gw vs 2, gw vs 3] from (gw_eta hl).trans rfl]
      have ha0 := HA0.out
      subst ha0
      clear HA0 hV hYZ hZb hsz0 hrows hne oe12 oe14 hCq g2
      simp only [putAll, Act.put, List.setIfInBounds_toArray, List.set_cons_zero, List.set_cons_succ, List.set_nil, f2]
      clear hl f2
      go_upto_region 4 with (fail)
      generalize ha0 : Act.mk _ _ = a0
      have oe0 : a0.eval (.tmp 0) = .pointer (some ⟨g, 0, none⟩) := by rw [← ha0]; rfl
      have oe2 : a0.eval (.tmp 2) = .func (.func 141) #[] #[] := by rw [← ha0]; rfl
      have oe7 : a0.eval (.tmp 7) = .pointer (some ⟨q, 0, none⟩) := by rw [← ha0]; rfl
      have hsz0 : a0.tmps.size = 23 := by rw [← ha0]; rfl
      have HA0 := hid ha0
      clear ha0
      refine wp_region_Q1 23 hsz0 [18, 19, 20, 21] (fun k => (R k) ∨ (New w wo k)) (fun k j => (k = 0 ∧ ((R j) ∨ (New w wo j)))) (fun _ _ h => h.2) [qi (.func (.func 141) #[] #[]), qi (.pointer (some ⟨g, 0, none⟩)), qi (.agg cs.toArray), qi (.tuple #[])] ⟨qi_stable, qi_stable, qi_stable, qi_stable, trivial⟩ [3] ⟨?_, ?_, ?_, ?_, trivial⟩ ?_
      · exact stq (fun E => ex_move rfl (E.v oe2))
      · exact stq (fun E => ex_move rfl (E.v oe0))
      · exact stq (fun E => ex_loadA rfl Try.underlying30 rfl (off := 0) (cs := cs) (by rw [HCL.out]; kernel_rfl) (E.v oe7) (Cs.whole (Hx6.out.mod E.m (by intro h2; rcases h2 with ⟨h0, h2 | h2⟩ | h2 <;> first | omega | (have hb := HBR.out _ h2; omega)))))
      · exact stepq_chain rfl
      intro u4_0 hr
      have zu4_0 := hr.size
      have Cx7 := hid (hr.new (S := (fun k => (R k) ∨ (New w wo k))))
      have Hx8 := hid ((HW2.out.mod Cx5.out (fun _ _ h => h)).mod hr (by intro k h1 h2; rcases h1 with h1 | h1 <;> first | omega | (have hb := HBR.out k h1; omega)))
      clear HW2
      clear hr
      refine QChain.go fun Z act E => ?_
      have ea19 : act.eval (.tmp 19) = .pointer (some ⟨g, 0, none⟩) := (E.d 1)
      have ea20 : act.eval (.tmp 20) = .agg cs.toArray := (E.d 2)
      refine qc_call (args := #[.pointer (some ⟨g, 0, none⟩), .agg cs.toArray]) rfl (wanted_none rfl) (by rw [ex_callV rfl (E.d 0) Try.func141 (by kernel_rfl) (by kernel_rfl)]; exact congrArg (fun z => Result.ok (Next.enter _ z) _) (by simp only [List.map_toArray, List.map_cons, List.map_nil, ea19, ea20]; try rfl)) (PutSt_Q _ _ _ _ _ _ _ Hx8.out (by intro k h1; rcases h1 with h1 | h1 <;> first | omega | (have hb := HBR.out k h1; omega)) ((HRD.out.mod Cx5.out (fun _ _ h => h)).mod Cx7.out (by intro k h1 h2; rcases h2 with h2 | h2 <;> first | omega | (have hb := HBT.out k h1; omega) | (have hb := HBR.out k h2; omega) | exact HDJ.out k h1 h2 | exact HDJ.out k h2 h1 | (have hb := HBT.out k h1; have hb2 := HBR.out k h2; omega))) (by intro k h1; have hb := HBT.out k h1; omega) (by intro k h1 h2; rcases h1 with h1 | h1 <;> first | omega | (have hb := HBR.out k h1; omega) | (have hb := HBT.out k h2; omega) | exact HDJ.out k h1 h2 | exact HDJ.out k h2 h1 | (have hb := HBR.out k h1; have hb2 := HBT.out k h2; omega)) HLk.out) ?_
      rintro e u4_1a ⟨rfl, qwr, hm⟩
      have zu4_1a := hm.size
      refine ⟨_, rfl, hm.mono (by intro k hk h; rcases h with h | h <;> first | omega | exact Or.inl ⟨(by have hb := HBR.out k h; omega), ⟨rfl, Or.inl h⟩⟩), (fun _ => rfl), ?_⟩
      intro u4_1 hr
      have zu4_1 := hr.size
      have Hx9 := hid ((qwr.widen (R' := (fun k => (R k) ∨ (New w wo k) ∨ (New u4_0 u4_1a k))) (by intro k h1; simp only [or_assoc] at h1 ⊢; exact h1) (Nat.le_refl _)).mod hr (by intro k h1 h2; rcases h1 with h1 | h1 | h1 <;> first | omega | (have hb := HBR.out k h1; omega)))
      have Cx10 := hid (Cx7.out.goM hm hr (fun _ _ h => h))
      clear Cx7 hm hr Z act E qwr Hx8 ea19 ea20
      refine QChain.nil fun vs hl hzz hrows hne => ?_
      obtain ⟨Z, hYZ, hZb, hV⟩ := hzz
      have f0 := fvi hV hl 0
      have f1 := fvi hV hl 1
      have f3 := fvi hV hl 3
      rw [show vs = [gw vs 0, gw vs 1, gw vs 2, gw vs 3] from (gw_eta hl).trans rfl]
      have ha0 := HA0.out
      subst ha0
      clear HA0 hV hYZ hZb hsz0 hrows hne oe0 oe2 oe7
      simp only [putAll, Act.put, List.setIfInBounds_toArray, List.set_cons_zero, List.set_cons_succ, f0, f1, f3]
      clear hl f0 f1 f3
      have hq := Hx9.out
      rw [HE.out] at hq
      have HQ := Lib.hid hq
      clear hq
      go_wp2
      go_roundw
      case rel => exact ⟨k + 1, by go_num, by omega, by omega, (HQ.out.widen (by intro b h1; rcases h1 with h1 | h1 | h1 <;> first | exact Or.inl h1 | (right; omega)) (Nat.le_refl _)), ((HS2.out.mod Cx5.out (fun _ _ h => h)).mod Cx10.out (by intro k h1 h2; rcases h2 with h2 | h2 <;> first | omega | (have hb := HBT.out k h1; omega) | (have hb := HBR.out k h2; omega) | exact HDJ.out k h1 h2 | exact HDJ.out k h2 h1 | (have hb := HBT.out k h1; have hb2 := HBR.out k h2; omega))), ((HM2.out.trans Cx5.out (fun _ _ h => h.elim)).trans Cx10.out (by intro k h1 h2; rcases h2 with h2 | h2 <;> first | exact h2 | omega | (have hb := HBR.out k h2; omega)))⟩
      case measure => simp [intOf]; omega
    · have hkk : k = l.length := by omega
      subst hkk
      go_wp2
      go_end0
      have hq := HW2.out
      rw [List.take_length] at hq
      exact ⟨rfl, hq, HM2.out⟩
set_option maxHeartbeats 4000000 in
theorem PutCe_Q : Puts CeR 98 ceB := by
  intro R R2 g bs cs x w hW hB hx hB2 hD hl
  obtain ⟨v_l, rfl, hok, hs0⟩ := hx
  have HS0 := Lib.hid hs0
  clear hs0
  have HW := Lib.hid hW
  have HBR := Lib.hid hB
  have HBT := Lib.hid hB2
  have HDJ := Lib.hid hD
  have HOK := Lib.hid hok
  have HL := Lib.hid hl
  clear hW hB hB2 hD hl hok
  unfold ceB at HL
  go_enter Try.func98, Try.ntmps98
  go_upto_region 1 with (fail)
  obtain ⟨w1, hw1⟩ : ∃ zz, zz = (w.alloc (.cells (x.cells v_l : List Value).toArray 52)) := ⟨_, rfl⟩
  change Code.wp _ _ _ _ (w.alloc (.cells (x.cells v_l : List Value).toArray 52))
  rw [← hw1]
  have HB3 := hid (show Cs w1 (w.heap.size) (x.cells v_l : List Value).toArray 52 by rw [hw1]; exact Cs.new _ _ _)
  have hm : Mod (fun _ => False) w w1 := by rw [hw1]; exact (Mod.refl _ _).alloc _
  have HM0 := hid (show Mod (fun k => (R k)) w w1 from hm.mono (fun _ _ h => h.elim))
  have hs1 : w1.heap.size = w.heap.size + 1 := by rw [hw1]; simp
  have Hx1 := hid (HW.out.mod hm (fun _ _ h => h))
  clear HW
  have Hx2 := hid (HS0.out.mod hm (fun _ _ h => h))
  clear HS0
  clear hw1 hm
  go_upto_region 1 with (fail)
  generalize ha0 : Act.mk _ _ = a0
  have oe0 : a0.eval (.tmp 0) = .pointer (some ⟨g, 0, none⟩) := by rw [← ha0]; rfl
  have oe3 : a0.eval (.tmp 3) = .pointer (some ⟨w.heap.size, 0, none⟩) := by rw [← ha0]; rfl
  have hsz0 : a0.tmps.size = 12 := by rw [← ha0]; rfl
  have HA0 := hid ha0
  clear ha0
  refine wp_region_Q1 12 hsz0 [4, 5, 6, 7] (fun k => (R k)) (fun k j => (k = 0 ∧ ((R j)))) (fun _ _ h => h.2) [qi (.pointer (some ⟨g, 0, none⟩)), qi (.pointer (some ⟨w.heap.size, 0, none⟩)), qi (x.c.val), qi (.tuple #[])] ⟨qi_stable, qi_stable, qi_stable, qi_stable, trivial⟩ [3] ⟨?_, ?_, ?_, ?_, trivial⟩ ?_
  · exact stq (fun E => ex_move rfl (E.v oe0))
  · exact stq (fun E => ex_field rfl Try.underlying52 rfl (by kernel_rfl) (E.v oe3))
  · exact stq (fun E => ex_loadA rfl Try.underlying49 rfl (off := 0) (cs := x.c.cells) (by rw [Cm.len HOK.out.2.1]; exact size_commit) (E.d 1) (Cs.midA (pre := []) (mid := x.c.cells) (post := [v_l]) (HB3.out.mod E.m (by intro h2; rcases h2 with ⟨h0, h2⟩ | h2 <;> first | omega | (have hb := HBR.out _ h2; omega))) rfl))
  · exact stepq_chain rfl
  intro u1_0 hr
  have zu1_0 := hr.size
  have Cx3 := hid (hr.new (S := (fun k => (R k))))
  have Hx4 := hid (Hx1.out.mod hr (by intro k h1 h2; have hb := HBR.out k h1; omega))
  clear Hx1
  clear hr
  refine QChain.go fun Z act E => ?_
  refine qc_callF (args := #[.pointer (some ⟨g, 0, none⟩), x.c.val]) rfl (wanted_none rfl) rfl Try.func139 (args2 (E.d 0) (E.d 2)) (PutCm_Q _ (fun _ => False) _ _ _ _ _ Hx4.out (by intro k h1; have hb := HBR.out k h1; omega) ⟨rfl, HOK.out⟩ (fun _ h => h.elim) (fun _ _ h => h.elim) (by have := HL.out; simp only [List.length_append] at this ⊢; omega)) ?_
  rintro e u1_1a ⟨rfl, qwr, hm⟩
  have zu1_1a := hm.size
  refine ⟨_, rfl, hm.mono (by intro k hk h; first | omega | exact Or.inl ⟨(by have hb := HBR.out k h; omega), ⟨rfl, h⟩⟩), (fun _ => rfl), ?_⟩
  intro u1_1 hr
  have zu1_1 := hr.size
  have Hx5 := hid ((qwr.widen (R' := (fun k => (R k) ∨ (New u1_0 u1_1a k))) (fun _ h => h) (Nat.le_refl _)).mod hr (by intro k h1 h2; rcases h1 with h1 | h1 <;> first | omega | (have hb := HBR.out k h1; omega)))
  have Cx6 := hid (Cx3.out.goM hm hr (fun _ _ h => h))
  clear Cx3 hm hr Z act E qwr Hx4
  refine QChain.nil fun vs hl hzz hrows hne => ?_
  obtain ⟨Z, hYZ, hZb, hV⟩ := hzz
  have f0 := fvi hV hl 0
  have f3 := fvi hV hl 3
  rw [show vs = [gw vs 0, gw vs 1, gw vs 2, gw vs 3] from (gw_eta hl).trans rfl]
  have ha0 := HA0.out
  subst ha0
  clear HA0 hV hYZ hZb hsz0 hrows hne oe0 oe3
  simp only [putAll, Act.put, List.setIfInBounds_toArray, List.set_cons_zero, List.set_cons_succ, f0, f3]
  clear hl f0 f3
  go_upto_region 2 with (fail)
  generalize ha0 : Act.mk _ _ = a0
  have oe0 : a0.eval (.tmp 0) = .pointer (some ⟨g, 0, none⟩) := by rw [← ha0]; rfl
  have oe3 : a0.eval (.tmp 3) = .pointer (some ⟨w.heap.size, 0, none⟩) := by rw [← ha0]; rfl
  have hsz0 : a0.tmps.size = 12 := by rw [← ha0]; rfl
  have HA0 := hid ha0
  clear ha0
  refine wp_region_Q1 12 hsz0 [8, 9, 10, 11] (fun k => (R k) ∨ (New u1_0 u1_1a k)) (fun k j => (k = 0 ∧ ((R j) ∨ (New u1_0 u1_1a j)))) (fun _ _ h => h.2) [qi (.pointer (some ⟨g, 0, none⟩)), qi (.pointer (some ⟨w.heap.size, 37, none⟩)), qi (v_l), qi (.tuple #[])] ⟨qi_stable, qi_stable, qi_stable, qi_stable, trivial⟩ [3] ⟨?_, ?_, ?_, ?_, trivial⟩ ?_
  · exact stq (fun E => ex_move rfl (E.v oe0))
  · exact stq (fun E => ex_field rfl Try.underlying52 rfl (by kernel_rfl) (E.v oe3))
  · exact stq (fun E => ex_load1 rfl Try.underlying50 rfl (E.d 1) (Cs.post1 (pre := []) (mid := x.c.cells) (post := [v_l]) (m := 37) (k := 0) ((HB3.out.mod Cx6.out (by intro h2; first | omega | (have hb := HBR.out _ h2; omega))).mod E.m (by intro h2; rcases h2 with ⟨h0, h2 | h2⟩ | h2 <;> first | omega | (have hb := HBR.out _ h2; omega))) (Cm.len HOK.out.2.1) rfl rfl))
  · exact stepq_chain rfl
  intro u2_0 hr
  have zu2_0 := hr.size
  have Cx7 := hid (hr.new (S := (fun k => (R k) ∨ (New u1_0 u1_1a k))))
  have Hx8 := hid (Hx5.out.mod hr (by intro k h1 h2; rcases h1 with h1 | h1 <;> first | omega | (have hb := HBR.out k h1; omega)))
  clear Hx5
  clear hr
  refine QChain.go fun Z act E => ?_
  refine qc_callF (args := #[.pointer (some ⟨g, 0, none⟩), v_l, .func (.func 141) #[] #[]]) rfl (wanted_none rfl) rfl Try.func140 (args3 (E.d 0) (E.d 2) rfl) (PutList_St _ _ _ _ _ _ _ Hx8.out (by intro k h1; rcases h1 with h1 | h1 <;> first | omega | (have hb := HBR.out k h1; omega)) ((Hx2.out.mod Cx6.out (by intro k h1 h2; first | omega | (have hb := HBT.out k h1; omega) | (have hb := HBR.out k h2; omega) | exact HDJ.out k h1 h2 | exact HDJ.out k h2 h1 | (have hb := HBT.out k h1; have hb2 := HBR.out k h2; omega))).mod Cx7.out (by intro k h1 h2; rcases h2 with h2 | h2 <;> first | omega | (have hb := HBT.out k h1; omega) | (have hb := HBR.out k h2; omega) | exact HDJ.out k h1 h2 | exact HDJ.out k h2 h1 | (have hb := HBT.out k h1; have hb2 := HBR.out k h2; omega))) (by intro k h1; have hb := HBT.out k h1; omega) (by intro k h1 h2; rcases h1 with h1 | h1 <;> first | omega | (have hb := HBR.out k h1; omega) | (have hb := HBT.out k h2; omega) | exact HDJ.out k h1 h2 | exact HDJ.out k h2 h1 | (have hb := HBR.out k h1; have hb2 := HBT.out k h2; omega)) (by have := HL.out; simp only [List.length_append] at this ⊢; omega)) ?_
  rintro e u2_1a ⟨rfl, qwr, hm⟩
  have zu2_1a := hm.size
  refine ⟨_, rfl, hm.mono (by intro k hk h; rcases h with h | h <;> first | omega | exact Or.inl ⟨(by have hb := HBR.out k h; omega), ⟨rfl, Or.inl h⟩⟩), (fun _ => rfl), ?_⟩
  intro u2_1 hr
  have zu2_1 := hr.size
  have Hx9 := hid ((qwr.widen (R' := (fun k => (R k) ∨ (New u1_0 u1_1a k) ∨ (New u2_0 u2_1a k))) (by intro k h1; simp only [or_assoc] at h1 ⊢; exact h1) (Nat.le_refl _)).mod hr (by intro k h1 h2; rcases h1 with h1 | h1 | h1 <;> first | omega | (have hb := HBR.out k h1; omega)))
  have Cx10 := hid (Cx7.out.goM hm hr (fun _ _ h => h))
  clear Cx7 hm hr Z act E qwr Hx8
  refine QChain.nil fun vs hl hzz hrows hne => ?_
  obtain ⟨Z, hYZ, hZb, hV⟩ := hzz
  have f0 := fvi hV hl 0
  have f3 := fvi hV hl 3
  rw [show vs = [gw vs 0, gw vs 1, gw vs 2, gw vs 3] from (gw_eta hl).trans rfl]
  have ha0 := HA0.out
  subst ha0
  clear HA0 hV hYZ hZb hsz0 hrows hne oe0 oe3
  simp only [putAll, Act.put, List.setIfInBounds_toArray, List.set_cons_zero, List.set_cons_succ, f0, f3]
  clear hl f0 f3
  go_wp2
  go_end0
  have hq := (Hx9.out.widen (R' := (fun k => R k ∨ New w u2_1 k)) (by intro k h1; rcases h1 with h1 | h1 | h1 <;> first | exact Or.inl h1 | (right; omega)) (Nat.le_refl _))
  simp only [List.append_assoc] at hq
  exact ⟨rfl, by simpa only [ceB, List.append_assoc] using hq, ((HM0.out.trans Cx6.out (fun _ _ h => h)).trans Cx10.out (by intro k h1 h2; rcases h2 with h2 | h2 <;> first | exact h2 | omega | (have hb := HBR.out k h2; omega)))⟩
end Go.Proofs.Ytknpapcfhnhheaa
