/- gavelref01.join: bytes, one behind the other; a region that joins what calls answer. -/
import Derived.Test.YtknpapcfhnhheaaRef1
import Derived.Test.YtknpapcfhnhheaaVal3
import Derived.Test.YtknpapcfhnhheaaIdx
import Derived.Test.YtknpapcfhnhheaaArith
set_option maxRecDepth 100000
set_option linter.unusedVariables false
namespace Go.Gv
open Go Go.RowKit
section
variable {P : Program} {o : Oper} {a : Act} {w w' : World}
/-- a row of slices is made -/
theorem ex_buildSl {ts T : TypeId} {n : Nat} {parts : Array (Nat × Operand)} (ho : o.op = .buildSlice ts n parts) (hu : P.underlying ts = some (.slice T)) (hie : (P.info? T).map (fun i => (i.size, i.zero)) = some (1, some (.slice none 0 0))) (hn : n ≠ 0 ∧ n ≤ 1000) {C : Array Value}
    (hf : Instr.fill (fun i => some (i * 1, 1)) ((Array.range (n * 1)).map (#[Value.slice none 0 0][· % 1]!)) (parts.map fun (i, x) => (i, a.eval x)).toList = some C) :
    (execOp a.eval o).run P w = .ok (.value (.slice (some ⟨w.heap.size, 0, none⟩) n n)) (w.alloc (.cells C T)) := by
  cases hq : P.info? T with
  | none => rw [hq] at hie; cases hie
  | some ie =>
    rw [hq] at hie
    have e := Option.some.inj hie
    have e1 : ie.size = 1 := congrArg Prod.fst e
    have e2 : ie.zero = some (.slice none 0 0) := congrArg Prod.snd e
    have hr := run_buildSlice (P := P) w ts T n (parts.map fun (i, x) => (i, a.eval x)) C ie (.slice none 0 0) hu hq e2 (by rw [e1]; omega) (by rw [e1]; omega) (by rw [e1]; exact hf)
    unfold execOp
    simp only [ho, Sem.run_bind, hr, Result.andThen_ok, Sem.run_pure]
end
/-- marks turn no cell -/
theorem Marked.cell {B : Nat} {T8 : TypeId} {w w' : World} (hm : Marked B T8 w w') {p : Addr} {u : Value} (h : w.cell? p = some u) : w'.cell? p = some u := by
  have hlt := World.block_lt_of_cell? _ _ h
  rcases hm.block p.block hlt with h1 | ⟨-, C, m, h1, h2⟩
  · exact (World.cell?_of_block h1).trans h
  · unfold World.cell? at h ⊢
    rw [h1] at h
    rw [h2]
    exact h
theorem Rd.cells {s n : Nat} {w w' : World} {v : Value} {cs : List Value} (h : Rd s w v n cs) (hc : ∀ p u, w.cell? p = some u → w'.cell? p = some u) : Rd s w' v n cs := by
  obtain ⟨hl, ao, cap, rfl, h1, h2, h3, h4⟩ := h
  exact ⟨hl, ao, cap, rfl, h1, h2, h3, fun x hx j u hu => ⟨(h4 x hx j u hu).1, hc _ _ (h4 x hx j u hu).2⟩⟩
theorem Rd.old {s n : Nat} {w : World} {v : Value} {cs : List Value} (hs : 0 < s) (h : Rd s w v n cs) (h0 : 0 < n) : ∀ g, v.ownBlock = some g → g < w.heap.size := by
  rcases h.form hs with ⟨rfl, _⟩ | ⟨g, o, cap, _, rfl, _, _, hl, hc⟩
  · omega
  · intro g' hg
    have e : g = g' := by simpa [Value.ownBlock] using hg
    subst e
    have hlt : 0 < cs.length := by rw [hl]; exact Nat.mul_pos h0 hs
    exact World.block_lt_of_cell? _ _ (hc 0 _ (List.getElem?_eq_getElem hlt))
end Go.Gv
namespace Go.Proofs.Ytknpapcfhnhheaa
open Go Go.RowKit Go.Gv

theorem RdB.cells {w w' : World} {v : Value} {bs : List Int} (h : RdB w v bs) (hc : ∀ p u, w.cell? p = some u → w'.cell? p = some u) : RdB w' v bs := ⟨h.1, h.2.cells hc⟩
/-- rows of bytes: the outer list, and each row where it lies -/
structure RdJ (w : World) (v : Value) (rs : List (Value × List Int)) : Prop where
  o : Rd 1 w v rs.length (rs.map (·.1))
  f : ∀ p ∈ rs, RdB w p.1 p.2
theorem RdJ.cells {w w' : World} {v : Value} {rs : List (Value × List Int)} (h : RdJ w v rs) (hc : ∀ p u, w.cell? p = some u → w'.cell? p = some u) : RdJ w' v rs := ⟨h.o.cells hc, fun p hp => (h.f p hp).cells hc⟩
theorem RdJ.shape {w : World} {v : Value} {rs : List (Value × List Int)} (h : RdJ w v rs) : ∃ ao cap, v = .slice ao rs.length cap := by
  obtain ⟨_, ao, cap, e, _⟩ := h.o
  exact ⟨ao, cap, e⟩
theorem RdJ.at {w : World} {ao : Option Addr} {n cap : Nat} {rs : List (Value × List Int)} (h : RdJ w (.slice ao n cap) rs) {i : Nat} (hi : i < rs.length) :
    ∃ g o, ao = some ⟨g, o, none⟩ ∧ g < w.heap.size ∧ w.cell? ⟨g, o + i, none⟩ = some rs[i].1 := by
  rcases h.o.form (by decide) with ⟨h0, _⟩ | ⟨g, o, cap', h0, hv, h1, h2, hl, hc⟩
  · omega
  · simp only [Value.slice.injEq] at hv
    obtain ⟨rfl, rfl, rfl⟩ := hv
    exact ⟨g, o, rfl, h.o.old (by decide) h0 g rfl, hc i _ (by simp [List.getElem?_eq_getElem hi])⟩
/-- a new outer list -/
theorem RdJ.new {w : World} {e : TypeId} {rs : List (Value × List Int)} (h : ∀ p ∈ rs, RdB w p.1 p.2) (hl : rs.length ≤ 1000) {C : Array Value} (hC : C = (rs.map (·.1)).toArray) {n : Nat} (hn : n = rs.length) : RdJ (w.alloc (.cells C e)) (.slice (some ⟨w.heap.size, 0, none⟩) n n) rs := by
  subst hC
  subst hn
  refine ⟨Rd.mk (Nat.le_refl _) (by rw [maxLen_val]; omega) (by simp) fun j y hy => ?_, fun p hp => (h p hp).alloc _⟩
  rw [Nat.zero_add, (Cs.new w _ e).cell]
  simpa using hy
def flat (rs : List (Value × List Int)) : List Int := (rs.map (·.2)).flatten
theorem flat_take (rs : List (Value × List Int)) (i : Nat) (h : i < rs.length) : flat (rs.take (i + 1)) = flat (rs.take i) ++ rs[i].2 := by
  unfold flat
  rw [List.take_succ_eq_append_getElem h, List.map_append, List.flatten_append]
  simp
theorem flat_le (rs : List (Value × List Int)) (i : Nat) : (flat (rs.take i)).length ≤ (flat rs).length := by
  conv => rhs; rw [← List.take_append_drop i rs]
  unfold flat
  rw [List.map_append, List.flatten_append, List.length_append]
  omega
set_option maxHeartbeats 4000000 in
theorem Join_any (v : Value) (rs : List (Value × List Int)) (w : World) (h : RdJ w v rs) (hn : rs.length ≤ 1000) (hl : (flat rs).length ≤ 900000) :
    Calls Try.prog 68 #[v] w fun e w' => ∃ v', e = .returned v' ∧ OwR (New w w') (flat rs).length w' v' (flat rs) ∧ Mod (fun _ => False) w w' := by
  have HR1 := Lib.hid h
  have HFL := Lib.hid hl
  obtain ⟨ao, cap, rfl⟩ := h.shape
  clear h hl
  go_enter Try.func68, Try.ntmps68
  go_wp2
  go_loopw [3, 7] (fun t3 t7 wr => ∃ (i : Nat), t7 = .int .i64 i ∧ i ≤ rs.length ∧ OwR (fun k => w.heap.size ≤ k) (flat (rs.take i)).length wr t3 (flat (rs.take i)) ∧ Mod (fun k => w.heap.size ≤ k) w wr) (fun _ t7 _ => rs.length - (intOf t7).toNat)
  case atStart => exact ⟨0, rfl, by omega, ⟨OwnB.nil _, (fun g hg => by cases hg), Nat.le_refl _⟩, Mod.refl _ _⟩
  case round =>
    obtain ⟨wi, rfl⟩ : ∃ x, x = wr := ⟨_, rfl⟩
    obtain ⟨i, rfl, hi, hB, hm⟩ := hrel
    have KB := Lib.hid hB
    have KM := Lib.hid hm
    have zi := hm.size
    clear hB hm
    by_cases hlt : i < rs.length
    · obtain ⟨g, o, rfl, hg, hcell0⟩ := HR1.out.at hlt
      have hcell : wi.cell? ⟨g, o + i, none⟩ = some rs[i].1 := KM.out.cell hcell0 (by show ¬ w.heap.size ≤ g; omega)
      have hrb : RdB w rs[i].1 rs[i].2 := HR1.out.f rs[i] (List.getElem_mem hlt)
      have HRW := Lib.hid (show RdR (fun k => k < w.heap.size) rs[i].2.length wi rs[i].1 rs[i].2 from RdR.mod ⟨hrb, hrb.block_lt, Nat.le_refl _⟩ KM.out (fun k h1 h2 => by omega))
      have HT := Lib.hid (flat_take rs i hlt)
      have hle := flat_le rs (i + 1)
      have hle2 := HFL.out
      rw [HT.out, List.length_append] at hle
      obtain ⟨q, hq⟩ : ∃ q, q = rs[i] := ⟨_, rfl⟩
      rw [← hq] at hcell HRW HT hle
      clear hcell0 hrb hq
      obtain ⟨vi, bi⟩ := q
      obtain ⟨ai, ci, rfl⟩ : ∃ ai ci, vi = .slice ai bi.length ci := HRW.out.shape
      dsimp only at hcell HRW HT hle
      obtain ⟨ab, cb, rfl⟩ := KB.out.shape
      go_wp2_with (at_builtin; go_must (refine wpList_appR rfl (.tmp 10) (.tmp 14) rfl rfl KB.out rfl HRW.out (by omega) ?_))
      intro ao5 cap5 w5 ho5 hm5
      have KB5 := Lib.hid (show OwR (fun k => w.heap.size ≤ k) (flat (rs.take (i + 1))).length w5 _ (flat (rs.take (i + 1))) from by
        rw [HT.out]
        exact ho5.widen (R' := fun k => w.heap.size ≤ k) (fun k h => by unfold New at h; omega) (by rw [List.length_append]; exact Nat.le_refl _))
      have KM5 := Lib.hid (KM.out.trans hm5 (fun k _ h => h))
      clear ho5 hm5 KB KM HT HRW hcell hle hle2
      go_wp2
      go_roundw
      case rel => exact ⟨i + 1, by go_num, by omega, KB5.out, KM5.out⟩
      case measure => first | (simp [intOf]; done) | (simp [intOf]; omega)
    · obtain rfl : i = rs.length := by omega
      have hb := KB.out
      rw [List.take_length] at hb
      have HB := Lib.hid hb
      obtain ⟨ab, cb, rfl⟩ := KB.out.shape
      clear hb KB
      go_wp2
      go_ret
      exact ⟨_, rfl, ⟨HB.out.1, (fun g hg => ⟨HB.out.2.1 g hg, Own.lt HB.out.1 hg⟩), Nat.le_refl _⟩, KM.out.mono (fun k hk h => by omega)⟩
/-- what a call answered, as bytes, as long as the chain has not begun -/
def rdP (bs : List Int) : GPred := fun t v w => t.length = 0 → RdB w v bs
def rowsP (bss : List (List Int)) : GPred := fun t v w => t.length = 0 → ∃ rs, rs.map (·.2) = bss ∧ RdJ w v rs
theorem stillM_cell {B K k : Nat} {w w' : World} (h : StillM B 5 K k w w') {p : Addr} {u : Value} (hc : w.cell? p = some u) : w'.cell? p = some u := by
  rcases h with h | ⟨-, h⟩
  · exact h.cell hc (fun h => h)
  · exact h.cell hc
theorem rdP_stable {S : Nat → Nat → Prop} {B K : Nat} {bs : List Int} : StableG S (StillM B 5 K) (rdP bs) :=
  ⟨fun t v w w' h hr h0 => (h h0).cells (fun p u hu => stillM_cell hr hu), fun t u v w w' h hm h0 => by simp at h0⟩
theorem rowsP_stable {S : Nat → Nat → Prop} {B K : Nat} {bss : List (List Int)} : StableG S (StillM B 5 K) (rowsP bss) :=
  ⟨fun t v w w' h hr h0 => by obtain ⟨rs, h1, h2⟩ := h h0; exact ⟨rs, h1, h2.cells (fun p u hu => stillM_cell hr hu)⟩, fun t u v w w' h hm h0 => by simp at h0⟩
theorem rdP_still {S : Nat → Nat → Prop} {bs : List Int} : StableG S Still (rdP bs) :=
  ⟨fun t v w w' h hr h0 => (h h0).cells (fun p u hu => Mod.cell hr hu (fun h => h)), fun t u v w w' h hm h0 => by simp at h0⟩
theorem rowsP_still {S : Nat → Nat → Prop} {bss : List (List Int)} : StableG S Still (rowsP bss) :=
  ⟨fun t v w w' h hr h0 => by obtain ⟨rs, h1, h2⟩ := h h0; exact ⟨rs, h1, h2.cells (fun p u hu => Mod.cell hr hu (fun h => h))⟩, fun t u v w w' h hm h0 => by simp at h0⟩
theorem Join_P (v : Value) (bss : List (List Int)) (w : World) {t : List Value} (h : rowsP bss t v w) (h0 : t.length = 0) (hn : bss.length ≤ 1000) (hl : bss.flatten.length ≤ 900000) :
    Calls Try.prog 68 #[v] w fun e w' => ∃ v', e = .returned v' ∧ OwR (New w w') bss.flatten.length w' v' bss.flatten ∧ Mod (fun _ => False) w w' := by
  obtain ⟨rs, rfl, hj⟩ := h h0
  exact Join_any v rs w hj (by simpa using hn) hl
theorem litG.rd {B K : Nat} {bs : List Int} {t : List Value} {v : Value} {w : World} (h : litG B 5 K (bs.map bv).toArray t v w) (hk : t.length ≤ K) (hb : Bytes bs) (hl : bs.length ≤ 1000000) : RdB w v bs := by
  obtain ⟨g, rfl, -, m, -, h4⟩ := h hk
  have e : (bs.map bv).toArray.size = bs.length := by simp
  rw [e]
  refine ⟨hb, Rd.mk (Nat.le_refl _) (by rw [maxLen_val]; omega) (by simp) fun j y hy => ?_⟩
  rw [Nat.zero_add]
  simp only [World.cell?, h4]
  simpa using hy
theorem stillM_T2 {B : Nat} {T8 : TypeId} {K : Nat} {w0 : World} {T : Nat → Prop} (hT : ∀ j, B ≤ j → T j) : ∀ k w w', Mod T w0 w → StillM B T8 K k w w' → Mod T w0 w' := by
  intro k w w' hm h
  rcases h with h | ⟨-, h⟩
  · exact hm.trans h (fun _ _ h => h.elim)
  · refine ⟨h.os.trans hm.os, h.tape.trans hm.tape, h.output.trans hm.output, Nat.le_trans hm.size h.size, fun j hj hn => ?_⟩
    rcases h.block j (Nat.lt_of_lt_of_le hj hm.size) with h1 | ⟨h1, -⟩
    · exact h1.trans (hm.block j hj hn)
    · exact absurd (hT j h1) hn
theorem StillM.obj {B K k : Nat} {w w' : World} (h : StillM B 5 K k w w') {g : Nat} {c : Array Value} {e : TypeId} (hc : Cs w g c e) (he : e ≠ 5) : Cs w' g c e := by
  rcases h with h | ⟨-, h⟩
  · exact hc.mod h (fun h => h)
  · rcases h.block g hc.lt with h1 | ⟨-, C, m, h1, -⟩
    · exact h1.trans hc
    · unfold Cs at hc
      rw [hc] at h1
      cases h1
      exact absurd rfl he
/-- an array's slice -/
theorem ex_sliceArr {P : Program} {o : Oper} {a : Act} {w : World} {T e : TypeId} {x : Operand} {g off n : Nat} (ho : o.op = .slice T x none none none) (hu : P.underlying T = some (.array n e)) (hs : (P.info? e).map (·.size) = some 1) (hx : a.eval x = .pointer (some ⟨g, off, none⟩)) (hn : 0 < n) :
    (execOp a.eval o).run P w = .ok (.value (.slice (some ⟨g, off, none⟩) n n)) w := by
  have hsz : (sizeOf e).run P w = .ok 1 w := by
    cases hq : P.info? e with
    | none => rw [hq] at hs; cases hs
    | some i => rw [hq] at hs; simp [sizeOf, typeInfo, hq]; exact Option.some.inj hs
  unfold execOp
  have h0 : ¬ n = 0 := by omega
  simp [ho, hx, Instr.sliceAt, Instr.slice, Instr.sliceBounds, asIntOf, run_underlying hu, hsz, add_mk, Instr.sureAddr, h0]
end Go.Proofs.Ytknpapcfhnhheaa
