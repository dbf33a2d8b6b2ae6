/- Texts that are built one behind the other: XJoin, XQ3, XSha1, XSha2, XSha3, XSha4, XActs, XLoc, XPlain2, XOwV, XNums, XSha5, XWc, XCm1, XCm2, XSet0, XTy. No condition. -/
import Derived.Test.YtknpapcfhnhheaaA2
import Derived.Lib.ConvBytes
import Derived.IntWalk
import Derived.Deep.Cut
import Derived.Deep.RegionHeld3
/- gavelref01.join: bytes, one behind the other; a region that joins what calls answer. -/
set_option maxRecDepth 100000
set_option linter.unusedVariables false
namespace Go.Gv
open Go Go.RowKit
section
variable {P : Program} {o : Oper} {a : Act} {w w' : World}
/-- a row of slices is made -/
theorem ex_buildSl {ts T : TypeId} {n : Nat} {parts : Array (Nat × Operand)} (ho : o.op = .buildSlice ts n parts) (hu : P.underlying ts = some (.slice T)) (hie : (P.info? T).map (fun i => (i.size, i.zero)) = some (1, some (.slice none 0 0))) (hn : n ≠ 0 ∧ n ≤ 1000) {C : Array Value}
    (hf : Instr.fill (fun i => some (i * 1, 1)) ((Array.range (n * 1)).map (#[Value.slice none 0 0][· % 1]!)) (parts.map fun (i, x) => (i, a.eval x)).toList = some C) :
    (execOp a.eval o).run P w = .ok (.value (.slice (some ⟨w.heap.size, 0, none⟩) n n)) (w.alloc (.cells C T)) := by
  cases hq : P.info? T with
  | none => rw [hq] at hie; cases hie
  | some ie =>
    rw [hq] at hie
    have e := Option.some.inj hie
    have e1 : ie.size = 1 := congrArg Prod.fst e
    have e2 : ie.zero = some (.slice none 0 0) := congrArg Prod.snd e
    have hr := run_buildSlice (P := P) w ts T n (parts.map fun (i, x) => (i, a.eval x)) C ie (.slice none 0 0) hu hq e2 (by rw [e1]; omega) (by rw [e1]; omega) (by rw [e1]; exact hf)
    unfold execOp
    simp only [ho, Sem.run_bind, hr, Result.andThen_ok, Sem.run_pure]
end
/-- marks turn no cell -/
theorem Marked.cell {B : Nat} {T8 : TypeId} {w w' : World} (hm : Marked B T8 w w') {p : Addr} {u : Value} (h : w.cell? p = some u) : w'.cell? p = some u := by
  have hlt := World.block_lt_of_cell? _ _ h
  rcases hm.block p.block hlt with h1 | ⟨-, C, m, h1, h2⟩
  · exact (World.cell?_of_block h1).trans h
  · unfold World.cell? at h ⊢
    rw [h1] at h
    rw [h2]
    exact h
theorem Rd.cells {s n : Nat} {w w' : World} {v : Value} {cs : List Value} (h : Rd s w v n cs) (hc : ∀ p u, w.cell? p = some u → w'.cell? p = some u) : Rd s w' v n cs := by
  obtain ⟨hl, ao, cap, rfl, h1, h2, h3, h4⟩ := h
  exact ⟨hl, ao, cap, rfl, h1, h2, h3, fun x hx j u hu => ⟨(h4 x hx j u hu).1, hc _ _ (h4 x hx j u hu).2⟩⟩
theorem Rd.old {s n : Nat} {w : World} {v : Value} {cs : List Value} (hs : 0 < s) (h : Rd s w v n cs) (h0 : 0 < n) : ∀ g, v.ownBlock = some g → g < w.heap.size := by
  rcases h.form hs with ⟨rfl, _⟩ | ⟨g, o, cap, _, rfl, _, _, hl, hc⟩
  · omega
  · intro g' hg
    have e : g = g' := by simpa [Value.ownBlock] using hg
    subst e
    have hlt : 0 < cs.length := by rw [hl]; exact Nat.mul_pos h0 hs
    exact World.block_lt_of_cell? _ _ (hc 0 _ (List.getElem?_eq_getElem hlt))
end Go.Gv
namespace Go.Proofs.Ytknpapcfhnhheaa
open Go Go.RowKit Go.Gv

theorem RdB.cells {w w' : World} {v : Value} {bs : List Int} (h : RdB w v bs) (hc : ∀ p u, w.cell? p = some u → w'.cell? p = some u) : RdB w' v bs := ⟨h.1, h.2.cells hc⟩
/-- rows of bytes: the outer list, and each row where it lies -/
structure RdJ (w : World) (v : Value) (rs : List (Value × List Int)) : Prop where
  o : Rd 1 w v rs.length (rs.map (·.1))
  f : ∀ p ∈ rs, RdB w p.1 p.2
theorem RdJ.cells {w w' : World} {v : Value} {rs : List (Value × List Int)} (h : RdJ w v rs) (hc : ∀ p u, w.cell? p = some u → w'.cell? p = some u) : RdJ w' v rs := ⟨h.o.cells hc, fun p hp => (h.f p hp).cells hc⟩
theorem RdJ.shape {w : World} {v : Value} {rs : List (Value × List Int)} (h : RdJ w v rs) : ∃ ao cap, v = .slice ao rs.length cap := by
  obtain ⟨_, ao, cap, e, _⟩ := h.o
  exact ⟨ao, cap, e⟩
theorem RdJ.at {w : World} {ao : Option Addr} {n cap : Nat} {rs : List (Value × List Int)} (h : RdJ w (.slice ao n cap) rs) {i : Nat} (hi : i < rs.length) :
    ∃ g o, ao = some ⟨g, o, none⟩ ∧ g < w.heap.size ∧ w.cell? ⟨g, o + i, none⟩ = some rs[i].1 := by
  rcases h.o.form (by decide) with ⟨h0, _⟩ | ⟨g, o, cap', h0, hv, h1, h2, hl, hc⟩
  · omega
  · simp only [Value.slice.injEq] at hv
    obtain ⟨rfl, rfl, rfl⟩ := hv
    exact ⟨g, o, rfl, h.o.old (by decide) h0 g rfl, hc i _ (by simp [List.getElem?_eq_getElem hi])⟩
/-- a new outer list -/
theorem RdJ.new {w : World} {e : TypeId} {rs : List (Value × List Int)} (h : ∀ p ∈ rs, RdB w p.1 p.2) (hl : rs.length ≤ 1000) {C : Array Value} (hC : C = (rs.map (·.1)).toArray) {n : Nat} (hn : n = rs.length) : RdJ (w.alloc (.cells C e)) (.slice (some ⟨w.heap.size, 0, none⟩) n n) rs := by
  subst hC
  subst hn
  refine ⟨Rd.mk (Nat.le_refl _) (by rw [maxLen_val]; omega) (by simp) fun j y hy => ?_, fun p hp => (h p hp).alloc _⟩
  rw [Nat.zero_add, (Cs.new w _ e).cell]
  simpa using hy
def flat (rs : List (Value × List Int)) : List Int := (rs.map (·.2)).flatten
theorem flat_take (rs : List (Value × List Int)) (i : Nat) (h : i < rs.length) : flat (rs.take (i + 1)) = flat (rs.take i) ++ rs[i].2 := by
  unfold flat
  rw [List.take_succ_eq_append_getElem h, List.map_append, List.flatten_append]
  simp
theorem flat_le (rs : List (Value × List Int)) (i : Nat) : (flat (rs.take i)).length ≤ (flat rs).length := by
  conv => rhs; rw [← List.take_append_drop i rs]
  unfold flat
  rw [List.map_append, List.flatten_append, List.length_append]
  omega
set_option maxHeartbeats 4000000 in
theorem Join_any (v : Value) (rs : List (Value × List Int)) (w : World) (h : RdJ w v rs) (hn : rs.length ≤ 1000) (hl : (flat rs).length ≤ 900000) :
    Calls Try.prog 68 #[v] w fun e w' => ∃ v', e = .returned v' ∧ OwR (New w w') (flat rs).length w' v' (flat rs) ∧ Mod (fun _ => False) w w' := by
  have HR1 := Lib.hid h
  have HFL := Lib.hid hl
  obtain ⟨ao, cap, rfl⟩ := h.shape
  clear h hl
  go_enter Try.func68, Try.ntmps68
  go_wp2
  go_loopw [3, 7] (fun t3 t7 wr => ∃ (i : Nat), t7 = .int .i64 i ∧ i ≤ rs.length ∧ OwR (fun k => w.heap.size ≤ k) (flat (rs.take i)).length wr t3 (flat (rs.take i)) ∧ Mod (fun k => w.heap.size ≤ k) w wr) (fun _ t7 _ => rs.length - (intOf t7).toNat)
  case atStart => exact ⟨0, rfl, by omega, ⟨OwnB.nil _, (fun g hg => by cases hg), Nat.le_refl _⟩, Mod.refl _ _⟩
  case round =>
    obtain ⟨wi, rfl⟩ : ∃ x, x = wr := ⟨_, rfl⟩
    obtain ⟨i, rfl, hi, hB, hm⟩ := hrel
    have KB := Lib.hid hB
    have KM := Lib.hid hm
    have zi := hm.size
    clear hB hm
    by_cases hlt : i < rs.length
    · obtain ⟨g, o, rfl, hg, hcell0⟩ := HR1.out.at hlt
      have hcell : wi.cell? ⟨g, o + i, none⟩ = some rs[i].1 := KM.out.cell hcell0 (by show ¬ w.heap.size ≤ g; omega)
      have hrb : RdB w rs[i].1 rs[i].2 := HR1.out.f rs[i] (List.getElem_mem hlt)
      have HRW := Lib.hid (show RdR (fun k => k < w.heap.size) rs[i].2.length wi rs[i].1 rs[i].2 from RdR.mod ⟨hrb, hrb.block_lt, Nat.le_refl _⟩ KM.out (fun k h1 h2 => by omega))
      have HT := Lib.hid (flat_take rs i hlt)
      have hle := flat_le rs (i + 1)
      have hle2 := HFL.out
      rw [HT.out, List.length_append] at hle
      obtain ⟨q, hq⟩ : ∃ q, q = rs[i] := ⟨_, rfl⟩
      rw [← hq] at hcell HRW HT hle
      clear hcell0 hrb hq
      obtain ⟨vi, bi⟩ := q
      obtain ⟨ai, ci, rfl⟩ : ∃ ai ci, vi = .slice ai bi.length ci := HRW.out.shape
      dsimp only at hcell HRW HT hle
      obtain ⟨ab, cb, rfl⟩ := KB.out.shape
      go_wp2_with (at_builtin; go_must (refine wpList_appR rfl (.tmp 10) (.tmp 14) rfl rfl KB.out rfl HRW.out (by omega) ?_))
      intro ao5 cap5 w5 ho5 hm5
      have KB5 := Lib.hid (show OwR (fun k => w.heap.size ≤ k) (flat (rs.take (i + 1))).length w5 _ (flat (rs.take (i + 1))) from by
        rw [HT.out]
        exact ho5.widen (R' := fun k => w.heap.size ≤ k) (fun k h => by unfold New at h; omega) (by rw [List.length_append]; exact Nat.le_refl _))
      have KM5 := Lib.hid (KM.out.trans hm5 (fun k _ h => h))
      clear ho5 hm5 KB KM HT HRW hcell hle hle2
      go_wp2
      go_roundw
      case rel => exact ⟨i + 1, by go_num, by omega, KB5.out, KM5.out⟩
      case measure => first | (simp [intOf]; done) | (simp [intOf]; omega)
    · obtain rfl : i = rs.length := by omega
      have hb := KB.out
      rw [List.take_length] at hb
      have HB := Lib.hid hb
      obtain ⟨ab, cb, rfl⟩ := KB.out.shape
      clear hb KB
      go_wp2
      go_ret
      exact ⟨_, rfl, ⟨HB.out.1, (fun g hg => ⟨HB.out.2.1 g hg, Own.lt HB.out.1 hg⟩), Nat.le_refl _⟩, KM.out.mono (fun k hk h => by omega)⟩
/-- what a call answered, as bytes, as long as the chain has not begun -/
def rdP (bs : List Int) : GPred := fun t v w => t.length = 0 → RdB w v bs
def rowsP (bss : List (List Int)) : GPred := fun t v w => t.length = 0 → ∃ rs, rs.map (·.2) = bss ∧ RdJ w v rs
theorem stillM_cell {B K k : Nat} {w w' : World} (h : StillM B 5 K k w w') {p : Addr} {u : Value} (hc : w.cell? p = some u) : w'.cell? p = some u := by
  rcases h with h | ⟨-, h⟩
  · exact h.cell hc (fun h => h)
  · exact h.cell hc
theorem rdP_stable {S : Nat → Nat → Prop} {B K : Nat} {bs : List Int} : StableG S (StillM B 5 K) (rdP bs) :=
  ⟨fun t v w w' h hr h0 => (h h0).cells (fun p u hu => stillM_cell hr hu), fun t u v w w' h hm h0 => by simp at h0⟩
theorem rowsP_stable {S : Nat → Nat → Prop} {B K : Nat} {bss : List (List Int)} : StableG S (StillM B 5 K) (rowsP bss) :=
  ⟨fun t v w w' h hr h0 => by obtain ⟨rs, h1, h2⟩ := h h0; exact ⟨rs, h1, h2.cells (fun p u hu => stillM_cell hr hu)⟩, fun t u v w w' h hm h0 => by simp at h0⟩
theorem rdP_still {S : Nat → Nat → Prop} {bs : List Int} : StableG S Still (rdP bs) :=
  ⟨fun t v w w' h hr h0 => (h h0).cells (fun p u hu => Mod.cell hr hu (fun h => h)), fun t u v w w' h hm h0 => by simp at h0⟩
theorem rowsP_still {S : Nat → Nat → Prop} {bss : List (List Int)} : StableG S Still (rowsP bss) :=
  ⟨fun t v w w' h hr h0 => by obtain ⟨rs, h1, h2⟩ := h h0; exact ⟨rs, h1, h2.cells (fun p u hu => Mod.cell hr hu (fun h => h))⟩, fun t u v w w' h hm h0 => by simp at h0⟩
theorem Join_P (v : Value) (bss : List (List Int)) (w : World) {t : List Value} (h : rowsP bss t v w) (h0 : t.length = 0) (hn : bss.length ≤ 1000) (hl : bss.flatten.length ≤ 900000) :
    Calls Try.prog 68 #[v] w fun e w' => ∃ v', e = .returned v' ∧ OwR (New w w') bss.flatten.length w' v' bss.flatten ∧ Mod (fun _ => False) w w' := by
  obtain ⟨rs, rfl, hj⟩ := h h0
  exact Join_any v rs w hj (by simpa using hn) hl
theorem litG.rd {B K : Nat} {bs : List Int} {t : List Value} {v : Value} {w : World} (h : litG B 5 K (bs.map bv).toArray t v w) (hk : t.length ≤ K) (hb : Bytes bs) (hl : bs.length ≤ 1000000) : RdB w v bs := by
  obtain ⟨g, rfl, -, m, -, h4⟩ := h hk
  have e : (bs.map bv).toArray.size = bs.length := by simp
  rw [e]
  refine ⟨hb, Rd.mk (Nat.le_refl _) (by rw [maxLen_val]; omega) (by simp) fun j y hy => ?_⟩
  rw [Nat.zero_add]
  simp only [World.cell?, h4]
  simpa using hy
theorem stillM_T2 {B : Nat} {T8 : TypeId} {K : Nat} {w0 : World} {T : Nat → Prop} (hT : ∀ j, B ≤ j → T j) : ∀ k w w', Mod T w0 w → StillM B T8 K k w w' → Mod T w0 w' := by
  intro k w w' hm h
  rcases h with h | ⟨-, h⟩
  · exact hm.trans h (fun _ _ h => h.elim)
  · refine ⟨h.os.trans hm.os, h.tape.trans hm.tape, h.output.trans hm.output, Nat.le_trans hm.size h.size, fun j hj hn => ?_⟩
    rcases h.block j (Nat.lt_of_lt_of_le hj hm.size) with h1 | ⟨h1, -⟩
    · exact h1.trans (hm.block j hj hn)
    · exact absurd (hT j h1) hn
theorem StillM.obj {B K k : Nat} {w w' : World} (h : StillM B 5 K k w w') {g : Nat} {c : Array Value} {e : TypeId} (hc : Cs w g c e) (he : e ≠ 5) : Cs w' g c e := by
  rcases h with h | ⟨-, h⟩
  · exact hc.mod h (fun h => h)
  · rcases h.block g hc.lt with h1 | ⟨-, C, m, h1, -⟩
    · exact h1.trans hc
    · unfold Cs at hc
      rw [hc] at h1
      cases h1
      exact absurd rfl he
/-- an array's slice -/
theorem ex_sliceArr {P : Program} {o : Oper} {a : Act} {w : World} {T e : TypeId} {x : Operand} {g off n : Nat} (ho : o.op = .slice T x none none none) (hu : P.underlying T = some (.array n e)) (hs : (P.info? e).map (·.size) = some 1) (hx : a.eval x = .pointer (some ⟨g, off, none⟩)) (hn : 0 < n) :
    (execOp a.eval o).run P w = .ok (.value (.slice (some ⟨g, off, none⟩) n n)) w := by
  have hsz : (sizeOf e).run P w = .ok 1 w := by
    cases hq : P.info? e with
    | none => rw [hq] at hs; cases hs
    | some i => rw [hq] at hs; simp [sizeOf, typeInfo, hq]; exact Option.some.inj hs
  unfold execOp
  have h0 : ¬ n = 0 := by omega
  simp [ho, hx, Instr.sliceAt, Instr.slice, Instr.sliceBounds, asIntOf, run_underlying hu, hsz, add_mk, Instr.sureAddr, h0]
end Go.Proofs.Ytknpapcfhnhheaa

/- Bytes in regions told step by step: appends, rows of rows, strings as bytes, writers' ends. -/
set_option maxRecDepth 100000
set_option linter.unusedVariables false
namespace Go.Proofs.Ytknpapcfhnhheaa
open Go Go.RowKit Go.Gv

section
variable {ops : Array Oper} {Q : Exit → Act → World → Prop} {i : Nat} {o : Oper} {a : Act} {w : World} {KQ : Value → World → Prop} {B : Nat} {S0 Z : Nat → Prop} {t : List Value} {l : List QPred}
/-- one of the chain appends bytes -/
theorem qc_appR {s x : Operand} {R R' : Nat → Prop} {N M : Nat} {v xv : Value} {bs new : List Int} (ho : ops[i]? = some o) (hw : Region.wanted o (yielded ops a.tmps) = true) (hop : o.op = .call { callee := .builtin .append, args := #[s, x], argTypes := #[38, 38] })
    (hs : a.eval s = v) (hx : a.eval x = xv) (hown : OwR R N w v bs) (hrd : RdR R' M w xv new) (hroom : (bs ++ new).length ≤ 900000)
    (h : ∀ ao cap w', OwR (fun k => R k ∨ New w w' k) 900000 w' (.slice ao (bs.length + new.length) cap) (bs ++ new) → Mod R w w' → KQ (.slice ao (bs.length + new.length) cap) w') : wpOp Try.prog ops Q i (fun a' w' => ∃ v, a' = a.put o.dst v ∧ KQ v w') a w := by
  obtain ⟨i0, hi, hz0, hz1, hz2⟩ := info_parts info_u8
  have hlen : bs.length + new.length ≤ 900000 := by simpa using hroom
  obtain ⟨ao, cap, w', hr, h1, h2, h3⟩ := run_append (P := Try.prog) w 38 o.type 5 i0 (.int .u8 0) 1 1 Try.underlying38 hi hz0 hz1 hz2 rfl (by decide) IsB_zero v _ _ hown.1 xv new.length (new.map bv) hrd.1.2 (isB_all hrd.1.1) (ints_oneCell .u8 new) (by omega) (by rw [maxLen_val]; omega)
  refine qc_run ho hw (ex_append hop hs hx hr) (h ao cap w' ⟨?_, (fun g hg => ?_), hroom⟩ (h2.mono (fun k _ hk => hown.2.1 k hk.symm)))
  · unfold OwnB
    rw [List.length_append, List.map_append]
    exact h1
  · rcases h3 with h3 | ⟨k, h3, hk⟩
    · exact .inl (hown.2.1 g (h3 ▸ hg))
    · rw [h3] at hg
      obtain rfl : k = g := by simpa using hg
      exact .inr ⟨hk, Own.lt h1 h3⟩
/-- one of the chain makes a row of rows -/
theorem qc_rows {ts : TypeId} {n : Nat} {parts : Array (Nat × Operand)} (ho : ops[i]? = some o) (hw : Region.wanted o (yielded ops a.tmps) = true) (hop : o.op = .buildSlice ts n parts) (hu : Try.prog.underlying ts = some (.slice 38)) (hn : n ≠ 0 ∧ n ≤ 1000) {C : Array Value}
    (hf : Instr.fill (fun i => some (i * 1, 1)) ((Array.range (n * 1)).map (#[Value.slice none 0 0][· % 1]!)) (parts.map fun (i, x) => (i, a.eval x)).toList = some C)
    (h : ∀ w', Cs w' w.heap.size C 38 → Mod (fun _ => False) w w' → KQ (.slice (some ⟨w.heap.size, 0, none⟩) n n) w') : wpOp Try.prog ops Q i (fun a' w' => ∃ v, a' = a.put o.dst v ∧ KQ v w') a w :=
  qc_run ho hw (ex_buildSl hop hu (by kernel_rfl) hn hf) (h _ (Cs.new _ _ _) ((Mod.refl _ _).alloc _))
theorem Join_Q {g n : Nat} {C : Array Value} {e : TypeId} (hc : Cs w g C e) (rs : List (Value × List Int)) (hC : C = (rs.map (·.1)).toArray) (hn : n = rs.length) (h : ∀ p ∈ rs, RdB w p.1 p.2) (hl2 : rs.length ≤ 1000) {bs : List Int} (hb : flat rs = bs) (hl : bs.length ≤ 900000) :
    Calls Try.prog 68 #[.slice (some ⟨g, 0, none⟩) n n] w fun e w' => ∃ v', e = .returned v' ∧ OwR (New w w') 900000 w' v' bs ∧ Mod (fun _ => False) w w' := by
  subst hb
  have hj : RdJ w (.slice (some ⟨g, 0, none⟩) n n) rs := by
    refine ⟨?_, h⟩
    subst hn
    refine Rd.mk (Nat.le_refl _) (by rw [maxLen_val]; omega) (by simp) fun j y hy => ?_
    rw [Nat.zero_add, hc.cell, hC]
    simpa using hy
  exact (Join_any _ rs w hj hl2 hl).mono fun e w' ⟨v', he, ho, hm⟩ => ⟨v', he, ho.widen (fun _ h => h) hl, hm⟩
theorem ql.rd {bs : List Int} {v : Value} (hb : Bytes bs) (h : ql B 5 (bs.map bv).toArray Z t v w) (hl : bs.length ≤ 1000000) : ∃ R : Nat → Prop, (∀ j, R j → B ≤ j ∧ ¬ Z j ∧ j < w.heap.size) ∧ RdR R bs.length w v bs := by
  obtain ⟨g, rfl, hB, hZ, m, h4⟩ := h
  have e : (bs.map bv).toArray.size = bs.length := by simp
  refine ⟨fun k => k = g, fun j hj => by subst hj; exact ⟨hB, hZ, (Array.getElem?_eq_some_iff.1 h4).1⟩, ⟨hb, ?_⟩, fun _ k hk => by cases hk; rfl, Nat.le_refl _⟩
  rw [e]
  refine Rd.mk (Nat.le_refl _) (by rw [maxLen_val]; omega) (by simp) fun j y hy => ?_
  rw [Nat.zero_add]
  simp only [World.cell?, h4]
  simpa using hy
/-- a string's bytes -/
def bytesOf (s : ByteArray) : List Int := s.data.toList.map fun b => (b.toNat : Int)
theorem bytesOf_len (s : ByteArray) : (bytesOf s).length = s.size := by unfold bytesOf; rw [List.length_map]; rfl
theorem bytesOf_ok (s : ByteArray) : Bytes (bytesOf s) := by
  intro x hx
  obtain ⟨b, -, rfl⟩ := List.mem_map.1 hx
  have := b.toNat_lt
  omega
theorem str_bytes (w : World) (s : ByteArray) (hs : s.size ≤ 1000000) : ∃ cap w', (convert 9 38 (.string s)).run Try.prog w = .ok (.slice (some ⟨w.heap.size, 0, none⟩) s.size cap) w' ∧ RdR (fun k => k = w.heap.size) 1000000 w' (.slice (some ⟨w.heap.size, 0, none⟩) s.size cap) (bytesOf s) ∧ Mod (fun _ => False) w w' ∧ w'.heap.size = w.heap.size + 1 := by
  refine ⟨_, _, Lib.run_convert_string_bytes (P := Try.prog) w _ _ 5 s Try.underlying9 Try.underlying38 Try.underlying5, ⟨⟨bytesOf_ok s, ?_⟩, (fun _ g hg => by cases hg; rfl), by rw [bytesOf_len]; exact hs⟩, ⟨rfl, rfl, rfl, by rw [Lib.bytesWorld_size]; omega, fun k hk _ => Lib.bytesWorld_at_old w _ s k hk⟩, Lib.bytesWorld_size w _ s⟩
  rw [bytesOf_len]
  refine Rd.mk (grownCap_ge w s.size 0 _) (grownCap_le_maxLen w s.size 0 _ (by rw [maxLen_val]; omega)) (by rw [List.length_map, bytesOf_len, Nat.mul_one]) fun j u hu => ?_
  rw [Nat.zero_add]
  have hj : j < s.size := by have := (List.getElem?_eq_some_iff.1 hu).1; rwa [List.length_map, bytesOf_len] at this
  rw [Lib.bytesWorld_cell w _ s j hj, ← hu]
  simp only [bytesOf, List.map_map, List.getElem?_map]
  have hj2 : j < s.data.toList.length := by rw [Array.length_toList]; exact hj
  rw [List.getElem?_eq_getElem hj2]
  simp only [Option.map_some, Function.comp, List.getD, List.getElem?_eq_getElem hj2, Option.getD_some]
theorem ex_convW {P : Program} {o : Oper} {a : Act} {w w' : World} {src dst : TypeId} {x : Operand} {u v : Value} (ho : o.op = .convert src dst x) (hx : a.eval x = u) (hr : (convert src dst u).run P w = .ok v w') : (execOp a.eval o).run P w = .ok (.value v) w' := by
  unfold execOp; simp [ho, hx, hr]
/-- beside the chain a string is made bytes -/
theorem qe_strB {x : Operand} {s : ByteArray} (ho : ops[i]? = some o) (hw : Region.wanted o (yielded ops a.tmps) = true) (hop : o.op = .convert 9 38 x) (hx : a.eval x = .string s) (hs : s.size ≤ 1000000) (hB : B ≤ w.heap.size) (hZ : ∀ j, Z j → j < w.heap.size)
    (hv : ∀ v w', qr B S0 (fun R w v => RdR R 1000000 w v (bytesOf s)) Z t v w' → (l.getD i qa) Z t v w') : wpOp Try.prog ops Q i (QJ B l Z i o t a w) a w := by
  obtain ⟨cap, w', hr, h1, h2, h3⟩ := str_bytes w s hs
  refine qe_run ho hw (ex_convW hop hx hr) (QE.still h2) (hv _ _ ⟨fun k => k = w.heap.size, fun j hj => ?_, h1⟩)
  subst hj
  exact ⟨by omega, fun h => by omega, fun h => by have := hZ _ h.2; omega⟩
theorem rdR_cells {bs : List Int} {N : Nat} : ∀ R w w' v, RdR R N w v bs → (∀ p u, R p.block → w.cell? p = some u → w'.cell? p = some u) → RdR R N w' v bs :=
  fun R w w' v h hk => ⟨⟨h.1.1, h.1.2.keepc fun h0 g hg p u hp hc => hk p u (hp ▸ h.2.1 h0 g hg) hc⟩, h.2⟩
theorem NewWriter_Q (w : World) : Calls Try.prog 44 #[] w fun e w' => ∃ b, e = .returned (.pointer (some ⟨b, 0, none⟩)) ∧ WrR (New w w') 900000 w' b [] ∧ Mod (fun _ => False) w w' :=
  (NewWriter_R w).mono fun e w' ⟨b, he, h, hm⟩ => ⟨b, he, h.widen (fun _ h => h) (by omega), hm⟩
theorem WBytes_Q {R : Nat → Prop} {b : Nat} {bs : List Int} {w : World} (hW : WrR R 900000 w b bs) :
    Calls Try.prog 50 #[.pointer (some ⟨b, 0, none⟩)] w fun e w' => ∃ v', e = .returned v' ∧ OwR (New w w') 900000 w' v' bs ∧ Mod (fun _ => False) w w' := WBytes_R hW (by omega)
end
end Go.Proofs.Ytknpapcfhnhheaa

/- SHA-256 in plain words, as the program's own operations spell it; bits.RotateLeft32 and sha.word. -/
set_option maxRecDepth 100000
set_option linter.unusedVariables false
namespace Go.Proofs.Ytknpapcfhnhheaa
open Go Go.RowKit Go.Gv

abbrev wv (x : Int) : Value := .int .u32 x
/-- a word turned to the right -/
def rr (n : Nat) (x : Int) : Int := bits .or .u32 (IntKind.u32.wrap (x * 2 ^ (32 - n))) (x / 2 ^ n)
def xr (a b : Int) : Int := bits .xor .u32 a b
def an (a b : Int) : Int := bits .and .u32 a b
def pl (a b : Int) : Int := (a + b) % 4294967296
def wordOf (a b c d : Int) : Int := bits .or .u32 (bits .or .u32 (bits .or .u32 (a % 4294967296 * 16777216 % 4294967296) (b % 4294967296 * 65536 % 4294967296)) (c % 4294967296 * 256 % 4294967296)) (d % 4294967296)

theorem RL_7 (x : Int) (w : World) : Calls Try.prog 156 #[wv x, .int .i64 (-7)] w fun e w' => e = .returned (wv (rr 7 x)) ∧ w = w' := by
  have hr : rr 7 x = bits .or .u32 (IntKind.u32.wrap (x * 33554432)) (x / 128) := rfl
  have HR := Lib.hid hr
  clear hr
  have hs : bits .and .u64 (IntKind.u64.wrap (-7)) 31 = 25 := by decide +kernel
  go_enter Try.func156, Try.ntmps156
  go_wp2
  go_ret
  exact ⟨ret_int (by rw [HR.out]; rfl), rfl⟩
theorem RL_18 (x : Int) (w : World) : Calls Try.prog 156 #[wv x, .int .i64 (-18)] w fun e w' => e = .returned (wv (rr 18 x)) ∧ w = w' := by
  have hr : rr 18 x = bits .or .u32 (IntKind.u32.wrap (x * 16384)) (x / 262144) := rfl
  have HR := Lib.hid hr
  clear hr
  have hs : bits .and .u64 (IntKind.u64.wrap (-18)) 31 = 14 := by decide +kernel
  go_enter Try.func156, Try.ntmps156
  go_wp2
  go_ret
  exact ⟨ret_int (by rw [HR.out]; rfl), rfl⟩
theorem RL_17 (x : Int) (w : World) : Calls Try.prog 156 #[wv x, .int .i64 (-17)] w fun e w' => e = .returned (wv (rr 17 x)) ∧ w = w' := by
  have hr : rr 17 x = bits .or .u32 (IntKind.u32.wrap (x * 32768)) (x / 131072) := rfl
  have HR := Lib.hid hr
  clear hr
  have hs : bits .and .u64 (IntKind.u64.wrap (-17)) 31 = 15 := by decide +kernel
  go_enter Try.func156, Try.ntmps156
  go_wp2
  go_ret
  exact ⟨ret_int (by rw [HR.out]; rfl), rfl⟩
theorem RL_19 (x : Int) (w : World) : Calls Try.prog 156 #[wv x, .int .i64 (-19)] w fun e w' => e = .returned (wv (rr 19 x)) ∧ w = w' := by
  have hr : rr 19 x = bits .or .u32 (IntKind.u32.wrap (x * 8192)) (x / 524288) := rfl
  have HR := Lib.hid hr
  clear hr
  have hs : bits .and .u64 (IntKind.u64.wrap (-19)) 31 = 13 := by decide +kernel
  go_enter Try.func156, Try.ntmps156
  go_wp2
  go_ret
  exact ⟨ret_int (by rw [HR.out]; rfl), rfl⟩
theorem RL_6 (x : Int) (w : World) : Calls Try.prog 156 #[wv x, .int .i64 (-6)] w fun e w' => e = .returned (wv (rr 6 x)) ∧ w = w' := by
  have hr : rr 6 x = bits .or .u32 (IntKind.u32.wrap (x * 67108864)) (x / 64) := rfl
  have HR := Lib.hid hr
  clear hr
  have hs : bits .and .u64 (IntKind.u64.wrap (-6)) 31 = 26 := by decide +kernel
  go_enter Try.func156, Try.ntmps156
  go_wp2
  go_ret
  exact ⟨ret_int (by rw [HR.out]; rfl), rfl⟩
theorem RL_11 (x : Int) (w : World) : Calls Try.prog 156 #[wv x, .int .i64 (-11)] w fun e w' => e = .returned (wv (rr 11 x)) ∧ w = w' := by
  have hr : rr 11 x = bits .or .u32 (IntKind.u32.wrap (x * 2097152)) (x / 2048) := rfl
  have HR := Lib.hid hr
  clear hr
  have hs : bits .and .u64 (IntKind.u64.wrap (-11)) 31 = 21 := by decide +kernel
  go_enter Try.func156, Try.ntmps156
  go_wp2
  go_ret
  exact ⟨ret_int (by rw [HR.out]; rfl), rfl⟩
theorem RL_25 (x : Int) (w : World) : Calls Try.prog 156 #[wv x, .int .i64 (-25)] w fun e w' => e = .returned (wv (rr 25 x)) ∧ w = w' := by
  have hr : rr 25 x = bits .or .u32 (IntKind.u32.wrap (x * 128)) (x / 33554432) := rfl
  have HR := Lib.hid hr
  clear hr
  have hs : bits .and .u64 (IntKind.u64.wrap (-25)) 31 = 7 := by decide +kernel
  go_enter Try.func156, Try.ntmps156
  go_wp2
  go_ret
  exact ⟨ret_int (by rw [HR.out]; rfl), rfl⟩
theorem RL_2 (x : Int) (w : World) : Calls Try.prog 156 #[wv x, .int .i64 (-2)] w fun e w' => e = .returned (wv (rr 2 x)) ∧ w = w' := by
  have hr : rr 2 x = bits .or .u32 (IntKind.u32.wrap (x * 1073741824)) (x / 4) := rfl
  have HR := Lib.hid hr
  clear hr
  have hs : bits .and .u64 (IntKind.u64.wrap (-2)) 31 = 30 := by decide +kernel
  go_enter Try.func156, Try.ntmps156
  go_wp2
  go_ret
  exact ⟨ret_int (by rw [HR.out]; rfl), rfl⟩
theorem RL_13 (x : Int) (w : World) : Calls Try.prog 156 #[wv x, .int .i64 (-13)] w fun e w' => e = .returned (wv (rr 13 x)) ∧ w = w' := by
  have hr : rr 13 x = bits .or .u32 (IntKind.u32.wrap (x * 524288)) (x / 8192) := rfl
  have HR := Lib.hid hr
  clear hr
  have hs : bits .and .u64 (IntKind.u64.wrap (-13)) 31 = 19 := by decide +kernel
  go_enter Try.func156, Try.ntmps156
  go_wp2
  go_ret
  exact ⟨ret_int (by rw [HR.out]; rfl), rfl⟩
theorem RL_22 (x : Int) (w : World) : Calls Try.prog 156 #[wv x, .int .i64 (-22)] w fun e w' => e = .returned (wv (rr 22 x)) ∧ w = w' := by
  have hr : rr 22 x = bits .or .u32 (IntKind.u32.wrap (x * 1024)) (x / 4194304) := rfl
  have HR := Lib.hid hr
  clear hr
  have hs : bits .and .u64 (IntKind.u64.wrap (-22)) 31 = 10 := by decide +kernel
  go_enter Try.func156, Try.ntmps156
  go_wp2
  go_ret
  exact ⟨ret_int (by rw [HR.out]; rfl), rfl⟩

theorem word_any (v : Value) (a b c d : Int) (bs : List Int) (w : World) (h : RdB w v (a :: b :: c :: d :: bs)) :
    Calls Try.prog 158 #[v] w fun e w' => e = .returned (wv (wordOf a b c d)) ∧ ∃ n, w' = w.drewN n := by
  obtain ⟨ao, cap, rfl, hc, hm⟩ := h.shape
  rcases h.form with ⟨h0, _⟩ | ⟨g, o, cap', _, hv, h1, h2, hcell⟩
  · cases h0
  simp only [Value.slice.injEq] at hv
  obtain ⟨rfl, _, rfl⟩ := hv
  have c0 := hcell 0 (by simp)
  have c1 := hcell 1 (by simp)
  have c2 := hcell 2 (by simp)
  have c3 := hcell 3 (by simp)
  simp only [List.getElem_cons_zero, List.getElem_cons_succ, Nat.add_zero] at c0 c1 c2 c3
  have hw : wordOf a b c d = bits .or .u32 (bits .or .u32 (bits .or .u32 (a % 4294967296 * 16777216 % 4294967296) (b % 4294967296 * 65536 % 4294967296)) (c % 4294967296 * 256 % 4294967296)) (d % 4294967296) := rfl
  have HW := Lib.hid hw
  simp only [List.length_cons] at hc ⊢
  generalize bs.length = n at *
  clear hw h hcell h1 h2 hm
  go_enter Try.func158, Try.ntmps158
  go_wp2
  go_quiet (fail)
  go_wp2
  go_ret
  exact ⟨ret_int (by rw [HW.out]), ⟨_, rfl⟩⟩
end Go.Proofs.Ytknpapcfhnhheaa

/- sha.spread: a block as 64 words. -/
set_option maxRecDepth 100000
set_option linter.unusedVariables false
namespace Go.Proofs.Ytknpapcfhnhheaa
open Go Go.RowKit Go.Gv

def wAt (bs : List Int) (i : Nat) : Int := wordOf (bs.getD (4 * i) 0) (bs.getD (4 * i + 1) 0) (bs.getD (4 * i + 2) 0) (bs.getD (4 * i + 3) 0)
def w16 (bs : List Int) (i : Nat) : List Int := (List.range i).map (wAt bs) ++ List.replicate (64 - i) 0
def spVal (p x q y : Int) : Int := pl (pl (pl p (xr (xr (rr 7 x) (rr 18 x)) (x / 8))) q) (xr (xr (rr 17 y) (rr 19 y)) (y / 1024))
def spStep (ws : List Int) (j : Nat) : List Int := ws.set (j + 16) (spVal (ws.getD j 0) (ws.getD (j + 1) 0) (ws.getD (j + 9) 0) (ws.getD (j + 14) 0))
def spTo (bs : List Int) (j : Nat) : List Int := (List.range j).foldl spStep (w16 bs 16)
def spreadF (bs : List Int) : List Int := spTo bs 48
theorem w16_len (bs : List Int) (i : Nat) (h : i ≤ 64) : (w16 bs i).length = 64 := by simp [w16]; omega
theorem w16_succ (bs : List Int) (i : Nat) (h : i < 64) : (w16 bs i).set i (wAt bs i) = w16 bs (i + 1) := by
  unfold w16
  rw [List.set_append_right _ _ (by simp), List.length_map, List.length_range, Nat.sub_self, List.range_succ, List.map_append, List.append_assoc]
  congr 1
  obtain ⟨k, hk⟩ : ∃ k, 64 - i = k + 1 := ⟨63 - i, by omega⟩
  rw [hk, show 64 - (i + 1) = k by omega, List.replicate_succ]
  rfl
theorem spTo_succ (bs : List Int) (j : Nat) : spTo bs (j + 1) = spStep (spTo bs j) j := by unfold spTo; rw [List.range_succ, List.foldl_append]; rfl
theorem spTo_len (bs : List Int) (j : Nat) : (spTo bs j).length = 64 := by
  induction j with
  | zero => exact w16_len bs 16 (by omega)
  | succ j ih => rw [spTo_succ, spStep, List.length_set, ih]
theorem spreadF_len (bs : List Int) : (spreadF bs).length = 64 := spTo_len bs 48
theorem drop4 (bs : List Int) (i : Nat) (h : 4 * i + 4 ≤ bs.length) : bs.drop (4 * i) = bs.getD (4 * i) 0 :: bs.getD (4 * i + 1) 0 :: bs.getD (4 * i + 2) 0 :: bs.getD (4 * i + 3) 0 :: bs.drop (4 * i + 4) := by
  rw [List.drop_eq_getElem_cons (by omega), List.drop_eq_getElem_cons (by omega), List.drop_eq_getElem_cons (by omega), List.drop_eq_getElem_cons (by omega)]
  simp [List.getD, show 4 * i < bs.length by omega, show 4 * i + 1 < bs.length by omega, show 4 * i + 2 < bs.length by omega, show 4 * i + 3 < bs.length by omega]

/-- an array of words in a block -/
def Ws (T : TypeId) (w : World) (g : Nat) (ws : List Int) : Prop := Cs w g (ws.map wv).toArray T
theorem Ws.cell {T : TypeId} {w : World} {g : Nat} {ws : List Int} (h : Ws T w g ws) {j : Nat} (hj : j < ws.length) : w.cell? ⟨g, j, none⟩ = some (wv (ws.getD j 0)) := by
  rw [Cs.cell h]; simp [List.getD, List.getElem?_eq_getElem hj]
theorem Ws.mod {T : TypeId} {S : Nat → Prop} {w w' : World} {g : Nat} {ws : List Int} (h : Ws T w g ws) (hm : Mod S w w') (hn : ¬ S g) : Ws T w' g ws := Cs.mod h hm hn
theorem Ws.set {T : TypeId} {w : World} {g : Nat} {ws : List Int} (h : Ws T w g ws) (j : Nat) (x : Int) : Ws T (w.setCell ⟨g, j, none⟩ (wv x)) g (ws.set j x) := by
  have := Cs.set h j (wv x)
  unfold Ws
  simpa [List.map_set] using this
theorem Ws.frozen {T : TypeId} {w : World} {g : Nat} {ws : List Int} (h : Ws T w g ws) (j : Nat) : w.frozen? ⟨g, j, none⟩ = false := Cs.frozen h j
theorem wv_one (ws : List Int) : ∀ u ∈ ws.map wv, u.oneCell' = true := ints_oneCell .u32 ws
theorem size_a64 : (Try.prog.info? 171).map (·.size) = some 64 := by kernel_rfl
theorem size_a8 : (Try.prog.info? 170).map (·.size) = some 8 := by kernel_rfl

set_option maxHeartbeats 2000000 in
theorem spread_any (v : Value) (bs : List Int) (w : World) (h : RdB w v bs) (hbl : ∀ g, v.ownBlock = some g → g < w.heap.size) (h64 : 64 ≤ bs.length) :
    Calls Try.prog 155 #[v] w fun e w' => e = .returned (.agg ((spreadF bs).map wv).toArray) ∧ Mod (fun _ => False) w w' := by
  obtain ⟨ao, cap, rfl, hc, hm⟩ := h.shape
  rw [maxLen_val] at hm
  have HR := Lib.hid h
  have HB := Lib.hid hbl
  clear h hbl
  obtain ⟨zs, hzs⟩ : ∃ zs, zs = List.replicate 64 (0 : Int) := ⟨_, rfl⟩
  obtain ⟨F, hF⟩ : ∃ F, F = spreadF bs := ⟨_, rfl⟩
  rw [← hF]
  have HZ := Lib.hid hzs
  have HFF := Lib.hid hF
  clear hzs hF
  go_enter Try.func155, Try.ntmps155
  go_wp2
  go_loopw [10] (fun t10 wr => ∃ i : Nat, t10 = .int .i64 i ∧ i ≤ 16 ∧ Ws 171 wr w.heap.size zs ∧ Ws 171 wr (w.heap.size + 1) (w16 bs i) ∧ Mod (fun _ => False) w wr) (fun t10 _ => 16 - (intOf t10).toNat)
  case atStart =>
    refine ⟨0, rfl, by omega, ?_, ?_, ?_⟩
    · rw [HZ.out]; exact (Cs.new w _ _).alloc _
    · have e : ∀ o, (w.alloc o).heap.size = w.heap.size + 1 := fun o => by simp
      unfold Ws
      rw [← e (.cells (List.replicate 64 (wv 0)).toArray 171)]
      exact Cs.new _ _ _
    · exact ((Mod.refl _ _).alloc _).alloc _
  case round =>
    obtain ⟨i, rfl, hi, hA, hB, hM⟩ := hrel
    have KA := Lib.hid hA
    have KB := Lib.hid hB
    have KM := Lib.hid hM
    have z0 := hM.size
    have zb := hB.lt
    clear hA hB hM
    by_cases hlt : i < 16
    · have hcap : ¬ cap = 4 * i := by omega
      have hle : 4 * i ≤ bs.length := by omega
      have hrd := RdB.tail_in (HR.out.mod KM.out (fun _ g hg h => h)) (4 * i) hle hcap
      rw [drop4 bs i (by omega)] at hrd
      have HRD := Lib.hid hrd
      clear hrd
      go_wp2_with fail
      refine (word_any _ _ _ _ _ _ _ HRD.out).mono ?_
      rintro e w2 ⟨rfl, hd⟩
      have hm := mod_of_drewN hd (fun _ => False)
      clear hd
      have KA2 := Lib.hid (KA.out.mod hm (fun h => h))
      have KB2 := Lib.hid (KB.out.mod hm (fun h => h))
      have KM2 := Lib.hid (KM.out.trans hm (fun _ _ h => h))
      clear hm KA KB KM
      have hci := KB2.out.cell (j := i) (by rw [w16_len _ _ (by omega)]; omega)
      have hfi := KB2.out.frozen i
      obtain ⟨x, hx⟩ : ∃ x, x = wordOf (bs.getD (4 * i) 0) (bs.getD (4 * i + 1) 0) (bs.getD (4 * i + 2) 0) (bs.getD (4 * i + 3) 0) := ⟨_, rfl⟩
      rw [← hx]
      have HX := Lib.hid hx
      clear hx
      go_wp2
      go_roundw
      case rel =>
        refine ⟨i + 1, by go_num, by omega, KA2.out.other (by simp) _, ?_, KM2.out.setCell (by first | (simp; done) | (simp; omega)) _⟩
        have := KB2.out.set i x
        rw [HX.out, show wordOf (bs.getD (4 * i) 0) (bs.getD (4 * i + 1) 0) (bs.getD (4 * i + 2) 0) (bs.getD (4 * i + 3) 0) = wAt bs i from rfl, w16_succ bs i (by omega)] at this
        rw [HX.out]
        exact this
      case measure => first | (simp [intOf]; done) | (simp [intOf]; omega)
    · obtain rfl : i = 16 := by omega
      rw [show ((16 : Nat) : Int) = 16 from rfl]
      go_wp2
      go_loopw [5] (fun t5 wr => ∃ j : Nat, t5 = .int .i64 ((j + 16 : Nat) : Int) ∧ j ≤ 48 ∧ Ws 171 wr w.heap.size zs ∧ Ws 171 wr (w.heap.size + 1) (spTo bs j) ∧ Mod (fun _ => False) w wr) (fun t5 _ => 64 - (intOf t5).toNat)
      case atStart => exact ⟨0, rfl, by omega, KA.out, KB.out, KM.out⟩
      case round =>
        obtain ⟨wi, rfl⟩ : ∃ x, x = wr := ⟨_, rfl⟩
        obtain ⟨j, rfl, hj, hA, hB, hM⟩ := hrel
        have zz := hM.size
        have zb2 := hB.lt
        clear KA KB KM
        have KA := Lib.hid hA
        have KB := Lib.hid hB
        have KM := Lib.hid hM
        clear hA hB hM
        by_cases hlt2 : j < 48
        · have c1 := KB.out.cell (j := j + 1) (by rw [spTo_len]; omega)
          have c14 := KB.out.cell (j := j + 14) (by rw [spTo_len]; omega)
          obtain ⟨x, hx⟩ : ∃ x, x = (spTo bs j).getD (j + 1) 0 := ⟨_, rfl⟩
          obtain ⟨y, hy⟩ : ∃ y, y = (spTo bs j).getD (j + 14) 0 := ⟨_, rfl⟩
          rw [← hx] at c1
          rw [← hy] at c14
          have HX := Lib.hid hx
          have HY := Lib.hid hy
          clear hx hy
          go_wp2_with fail
          go_quiet (fail)
          clear c1 c14
          obtain ⟨w1, hw1⟩ : ∃ x, x = wi.drewN nq := ⟨_, rfl⟩
          have hm := mod_of_drewN ⟨nq, hw1⟩ (fun _ => False)
          rw [← hw1]
          clear hw1
          have KA2 := Lib.hid (KA.out.mod hm (fun h => h))
          have KB2 := Lib.hid (KB.out.mod hm (fun h => h))
          have KM2 := Lib.hid (KM.out.trans hm (fun _ _ h => h))
          have zz2 := hm.size
          clear hm KA KB KM
          go_wp2_with (first | (go_at_call 156; (with_reducible refine (RL_7 _ _).mono ?_); rintro e w' ⟨rfl, rfl⟩) | (go_at_call 156; (with_reducible refine (RL_18 _ _).mono ?_); rintro e w' ⟨rfl, rfl⟩) | (go_at_call 156; (with_reducible refine (RL_17 _ _).mono ?_); rintro e w' ⟨rfl, rfl⟩) | (go_at_call 156; (with_reducible refine (RL_19 _ _).mono ?_); rintro e w' ⟨rfl, rfl⟩))
          have c0 := KB2.out.cell (j := j) (by rw [spTo_len]; omega)
          have c9 := KB2.out.cell (j := j + 9) (by rw [spTo_len]; omega)
          have c16 := KB2.out.cell (j := j + 16) (by rw [spTo_len]; omega)
          have f16 := KB2.out.frozen (j + 16)
          have b0 : (0 : Int) ≤ j := by omega
          have b1 : (j : Int) < 64 := by omega
          have b2 : (0 : Int) ≤ (j : Int) + 9 := by omega
          have b3 : (j : Int) + 9 < 64 := by omega
          have b4 : (0 : Int) ≤ (j : Int) + 16 := by omega
          have hw0 : IntKind.i64.wrap (j : Int) = j := IntWalk.i64_in _ (by omega)
          have hw9 : IntKind.i64.wrap ((j : Int) + 16 - 7) = (j : Int) + 9 := by rw [IntWalk.i64_in _ (by omega)]; omega
          have ht9 : ((j : Int) + 9).toNat = j + 9 := by omega
          have ht16 : ((j : Int) + 16).toNat = j + 16 := by omega
          obtain ⟨p, hp⟩ : ∃ p, p = (spTo bs j).getD j 0 := ⟨_, rfl⟩
          obtain ⟨q, hq⟩ : ∃ q, q = (spTo bs j).getD (j + 9) 0 := ⟨_, rfl⟩
          rw [← hp] at c0
          rw [← hq] at c9
          have HP := Lib.hid hp
          have HQ := Lib.hid hq
          clear hp hq
          have hset := KB2.out.set (j + 16) (spVal p x q y)
          rw [HP.out, HX.out, HQ.out, HY.out] at hset
          have e : (spTo bs j).set (j + 16) (spVal ((spTo bs j).getD j 0) ((spTo bs j).getD (j + 1) 0) ((spTo bs j).getD (j + 9) 0) ((spTo bs j).getD (j + 14) 0)) = spTo bs (j + 1) := (spTo_succ bs j).symm
          rw [e] at hset
          rw [← HP.out, ← HX.out, ← HQ.out, ← HY.out] at hset
          clear e
          have HSET := Lib.hid hset
          have HVAL := Lib.hid (show spVal p x q y = IntKind.u32.wrap (IntKind.u32.wrap (IntKind.u32.wrap (p + bits .xor .u32 (bits .xor .u32 (rr 7 x) (rr 18 x)) (x / 8)) + q) + bits .xor .u32 (bits .xor .u32 (rr 17 y) (rr 19 y)) (y / 1024)) by simp only [spVal, pl, xr, IntKind.wrap_u32])
          clear hset
          go_region_law (fail)
          all_goals
            rw [← HVAL.out]
            go_wp2
            go_roundw
            case rel => exact ⟨j + 1, by go_num, by omega, KA2.out.other (p := ⟨w.heap.size + 1, j + 16, none⟩) (by simp) _, HSET.out, (KM2.out.setCell (p := ⟨w.heap.size + 1, j + 16, none⟩) (by first | (simp; done) | (simp; omega)) _).drew⟩
            case measure => first | (simp [intOf]; done) | (simp [intOf]; omega)
        · obtain rfl : j = 48 := by omega
          have hFl : F.length = 64 := by rw [HFF.out]; exact spreadF_len bs
          have hzl : zs.length = 64 := by rw [HZ.out]; simp
          have hKB : Ws 171 wi (w.heap.size + 1) F := by rw [HFF.out]; exact KB.out
          have hcell : ∀ k u, (F.map wv)[k]? = some u → wi.cell? ⟨w.heap.size + 1, 0 + k, none⟩ = some u := by
            intro k u hu
            rw [Nat.zero_add, Cs.cell hKB]
            simpa using hu
          have HCELL := Lib.hid hcell
          have HS := Lib.hid (show (Try.prog.info? 171).map (·.size) = some (F.map wv).length by rw [List.length_map, hFl]; exact size_a64)
          have HF := Lib.hid (show 0 + (F.map wv).length ≤ (zs.map wv).toArray.size by simp [hFl, hzl])
          have HLY := Lib.hid (lay_whole (zs.map wv).toArray (F.map wv) (by simp [hFl, hzl]))
          clear hcell hFl hzl hKB
          go_upto_region 14 with (fail)
          go_step
          refine wpList_loadA rfl 171 (.tmp 3) rfl Try.underlying171 rfl (g := w.heap.size + 1) (off := 0) (cs := F.map wv) HS.out rfl HCELL.out ?_
          simp only [Act.put, List.setIfInBounds_toArray, List.set_cons_zero, List.set_cons_succ]
          refine wpList_storeA rfl 171 (.tmp 2) (.tmp 64) rfl KA.out (vs := F.map wv) HS.out (wv_one _) HF.out rfl rfl ?_
          intro w3 hc3 hm3
          rw [HLY.out] at hc3
          go_wp2
          refine bodyPost_ret (results_cellA rfl _ _ w.heap.size (F.map wv) rfl (fun k u hu => by rw [hc3.cell]; simpa using hu) Try.underlying171 rfl HS.out) rfl ⟨rfl, KM.out.trans (hm3.mono (S' := fun k => k = w.heap.size) (fun k _ hk => hk)) (by intro k h1 h2; omega)⟩
end Go.Proofs.Ytknpapcfhnhheaa

/- sha.mix: a block goes into the state. -/
set_option maxRecDepth 100000
set_option linter.unusedVariables false
namespace Go.Proofs.Ytknpapcfhnhheaa
open Go Go.RowKit Go.Gv

theorem zero_of {P : Program} {T : TypeId} {z : Value} (h : (P.info? T).bind (·.zero) = some z) : ∃ info, P.info? T = some info ∧ info.zero = some z := by
  cases hq : P.info? T with
  | none => rw [hq] at h; cases h
  | some i => rw [hq] at h; exact ⟨i, rfl, h⟩
theorem zero_a64 : (Try.prog.info? 171).bind (·.zero) = some (.agg (Array.replicate 64 (wv 0))) := by kernel_rfl
theorem zero_a8 : (Try.prog.info? 170).bind (·.zero) = some (.agg (Array.replicate 8 (wv 0))) := by kernel_rfl
theorem upd_ne {L : Nat → Bool} {i j : Nat} (h : j ≠ i) : upd L i j = L j := by simp [upd, h]
theorem upd_eq {L : Nat → Bool} {i : Nat} : upd L i i = true := by simp [upd]
theorem repl_eq (n : Nat) : (Value.agg (Array.replicate n (wv 0))).cells = ((List.replicate n 0).map wv).toArray := by
  simp only [Value.cells, List.map_replicate]
  rfl

/-- the walk of 'w, s := spread(b), h' -/
structure MixI (w0 : World) (v : Value) (hs F z8 z64 : List Int) (g3 : Nat) (L : Nat → Bool) (vs : List Value) (w : World) : Prop where
  mod : Mod (fun _ => False) w0 w
  b3 : Ws 170 w g3 hs
  v0 : L 0 = true → vs[0]? = some v
  v1 : L 1 = true → vs[1]? = some (.agg (F.map wv).toArray)
  v2 : L 2 = true → vs[2]? = some (.agg (hs.map wv).toArray)
  v3 : L 3 = true → ∃ g, vs[3]? = some (.pointer (some ⟨g, 0, none⟩)) ∧ w0.heap.size ≤ g ∧ Ws 171 w g (if L 5 then F else z64)
  v4 : L 4 = true → ∃ g, vs[4]? = some (.pointer (some ⟨g, 0, none⟩)) ∧ w0.heap.size ≤ g ∧ Ws 170 w g (if L 6 then hs else z8)
  ne : vs[3]? = vs[4]? → L 3 = true → L 4 = true → False
  d5 : L 5 = true → L 3 = true
  d6 : L 6 = true → L 4 = true

theorem MixI.world {w0 w w' : World} {v : Value} {hs F z8 z64 : List Int} {g3 : Nat} {L : Nat → Bool} {vs : List Value} (h : MixI w0 v hs F z8 z64 g3 L vs w) (hm : Mod (fun _ => False) w w') : MixI w0 v hs F z8 z64 g3 L vs w' :=
  ⟨h.mod.trans hm (fun _ _ h => h), h.b3.mod hm (fun h => h), h.v0, h.v1, h.v2,
    fun hL => by obtain ⟨g, h1, h2, h3⟩ := h.v3 hL; exact ⟨g, h1, h2, h3.mod hm (fun h => h)⟩,
    fun hL => by obtain ⟨g, h1, h2, h3⟩ := h.v4 hL; exact ⟨g, h1, h2, h3.mod hm (fun h => h)⟩, h.ne, h.d5, h.d6⟩
/-- a value at a place below the pointers -/
theorem MixI.val {w0 w : World} {v : Value} {hs F z8 z64 : List Int} {g3 : Nat} {L : Nat → Bool} {vs : List Value} (h : MixI w0 v hs F z8 z64 g3 L vs w) (hl : vs.length = 5) (i : Nat) (hi : i < 3) (x : Value)
    (hx : x = [v, .agg (F.map wv).toArray, .agg (hs.map wv).toArray].getD i undef) : MixI w0 v hs F z8 z64 g3 (upd L i) (vs.set i x) w := by
  subst hx
  have e : ∀ k, k ≠ i → (vs.set i ([v, .agg (F.map wv).toArray, .agg (hs.map wv).toArray].getD i undef))[k]? = vs[k]? := fun k hk => List.getElem?_set_ne (Ne.symm hk)
  have e' : (vs.set i ([v, .agg (F.map wv).toArray, .agg (hs.map wv).toArray].getD i undef))[i]? = some ([v, .agg (F.map wv).toArray, .agg (hs.map wv).toArray].getD i undef) := List.getElem?_set_self (by omega)
  refine ⟨h.mod, h.b3, fun hL => ?_, fun hL => ?_, fun hL => ?_, fun hL => ?_, fun hL => ?_, fun h1 h2 h3 => ?_, fun h1 => ?_, fun h1 => ?_⟩
  · by_cases hk : 0 = i
    · subst hk; rw [e']; rfl
    · rw [upd_ne hk] at hL; rw [e 0 hk]; exact h.v0 hL
  · by_cases hk : 1 = i
    · subst hk; rw [e']; rfl
    · rw [upd_ne hk] at hL; rw [e 1 hk]; exact h.v1 hL
  · by_cases hk : 2 = i
    · subst hk; rw [e']; rfl
    · rw [upd_ne hk] at hL; rw [e 2 hk]; exact h.v2 hL
  · rw [upd_ne (by omega)] at hL; rw [e 3 (by omega), upd_ne (show 5 ≠ i by omega)]; exact h.v3 hL
  · rw [upd_ne (by omega)] at hL; rw [e 4 (by omega), upd_ne (show 6 ≠ i by omega)]; exact h.v4 hL
  · rw [e 3 (by omega), e 4 (by omega)] at h1
    rw [upd_ne (by omega)] at h2 h3
    exact h.ne h1 h2 h3
  · rw [upd_ne (by omega)] at h1 ⊢; exact h.d5 h1
  · rw [upd_ne (by omega)] at h1 ⊢; exact h.d6 h1
theorem ptr_inj {g g' : Nat} (h : Value.pointer (some ⟨g, 0, none⟩) = Value.pointer (some ⟨g', 0, none⟩)) : g = g' := by simpa using h
section
variable {w0 w : World} {v : Value} {hs F z8 z64 : List Int} {g3 : Nat} {L : Nat → Bool} {vs : List Value}
theorem MixI.al3 (h : MixI w0 v hs F z8 z64 g3 L vs w) (hl : vs.length = 5) (hL : L 3 = false) : MixI w0 v hs F z8 z64 g3 (upd L 3) (vs.set 3 (.pointer (some ⟨w.heap.size, 0, none⟩))) (w.alloc (.cells (z64.map wv).toArray 171)) := by
  have h5 : L 5 = false := by cases h5 : L 5 with | false => rfl | true => rw [h.d5 h5] at hL; cases hL
  have hn := h.world ((Mod.refl (fun _ => False) w).alloc (.cells (z64.map wv).toArray 171))
  have e : ∀ k, k ≠ 3 → (vs.set 3 (.pointer (some ⟨w.heap.size, 0, none⟩)))[k]? = vs[k]? := fun k hk => List.getElem?_set_ne (Ne.symm hk)
  have e' : (vs.set 3 (.pointer (some ⟨w.heap.size, 0, none⟩)))[3]? = some (.pointer (some ⟨w.heap.size, 0, none⟩)) := List.getElem?_set_self (by omega)
  refine ⟨hn.mod, hn.b3, fun q => ?_, fun q => ?_, fun q => ?_, fun q => ?_, fun q => ?_, fun h1 h2 h3 => ?_, fun q => ?_, fun q => ?_⟩
  · rw [upd_ne (by omega)] at q; rw [e 0 (by omega)]; exact hn.v0 q
  · rw [upd_ne (by omega)] at q; rw [e 1 (by omega)]; exact hn.v1 q
  · rw [upd_ne (by omega)] at q; rw [e 2 (by omega)]; exact hn.v2 q
  · refine ⟨w.heap.size, e', h.mod.size, ?_⟩
    rw [upd_ne (by omega), h5]
    exact Cs.new _ _ _
  · rw [upd_ne (by omega)] at q; rw [e 4 (by omega), upd_ne (show 6 ≠ 3 by omega)]; exact hn.v4 q
  · rw [upd_ne (by omega)] at h3
    obtain ⟨g, a1, a2, a3⟩ := h.v4 h3
    rw [e', e 4 (by omega), a1] at h1
    have := a3.lt
    have := ptr_inj (Option.some.inj h1)
    omega
  · exact upd_eq
  · rw [upd_ne (by omega)] at q ⊢; exact h.d6 q
theorem MixI.al4 (h : MixI w0 v hs F z8 z64 g3 L vs w) (hl : vs.length = 5) (hL : L 4 = false) : MixI w0 v hs F z8 z64 g3 (upd L 4) (vs.set 4 (.pointer (some ⟨w.heap.size, 0, none⟩))) (w.alloc (.cells (z8.map wv).toArray 170)) := by
  have h5 : L 6 = false := by cases h5 : L 6 with | false => rfl | true => rw [h.d6 h5] at hL; cases hL
  have hn := h.world ((Mod.refl (fun _ => False) w).alloc (.cells (z8.map wv).toArray 170))
  have e : ∀ k, k ≠ 4 → (vs.set 4 (.pointer (some ⟨w.heap.size, 0, none⟩)))[k]? = vs[k]? := fun k hk => List.getElem?_set_ne (Ne.symm hk)
  have e' : (vs.set 4 (.pointer (some ⟨w.heap.size, 0, none⟩)))[4]? = some (.pointer (some ⟨w.heap.size, 0, none⟩)) := List.getElem?_set_self (by omega)
  refine ⟨hn.mod, hn.b3, fun q => ?_, fun q => ?_, fun q => ?_, fun q => ?_, fun q => ?_, fun h1 h2 h3 => ?_, fun q => ?_, fun q => ?_⟩
  · rw [upd_ne (by omega)] at q; rw [e 0 (by omega)]; exact hn.v0 q
  · rw [upd_ne (by omega)] at q; rw [e 1 (by omega)]; exact hn.v1 q
  · rw [upd_ne (by omega)] at q; rw [e 2 (by omega)]; exact hn.v2 q
  · rw [upd_ne (by omega)] at q; rw [e 3 (by omega), upd_ne (show 5 ≠ 4 by omega)]; exact hn.v3 q
  · refine ⟨w.heap.size, e', h.mod.size, ?_⟩
    rw [upd_ne (by omega), h5]
    exact Cs.new _ _ _
  · rw [upd_ne (by omega)] at h2
    obtain ⟨g, a1, a2, a3⟩ := h.v3 h2
    rw [e', e 3 (by omega), a1] at h1
    have := a3.lt
    have := ptr_inj (Option.some.inj h1)
    omega
  · rw [upd_ne (by omega)] at q ⊢; exact h.d5 q
  · exact upd_eq
theorem MixI.st (h : MixI w0 v hs F z8 z64 g3 L vs w) (h30 : g3 < w0.heap.size) (i : Nat) (hi : i = 5 ∨ i = 6) {w' : World} {g : Nat} (hg : vs[i - 2]? = some (.pointer (some ⟨g, 0, none⟩))) (hg0 : w0.heap.size ≤ g) (hL3 : L (i - 2) = true)
    (hm : Mod (fun k => k = g) w w') (h5 : i = 5 → Ws 171 w' g F) (h6 : i = 6 → Ws 170 w' g hs) : MixI w0 v hs F z8 z64 g3 (upd L i) vs w' := by
  refine ⟨h.mod.trans hm (fun k hk e => by omega), h.b3.mod hm (by omega), fun q => ?_, fun q => ?_, fun q => ?_, fun q => ?_, fun q => ?_, fun h1 h2 h3 => ?_, fun q => ?_, fun q => ?_⟩
  · rw [upd_ne (by omega)] at q; exact h.v0 q
  · rw [upd_ne (by omega)] at q; exact h.v1 q
  · rw [upd_ne (by omega)] at q; exact h.v2 q
  · rw [upd_ne (by omega)] at q
    obtain ⟨g', a1, a2, a3⟩ := h.v3 q
    refine ⟨g', a1, a2, ?_⟩
    rcases hi with rfl | rfl
    · rw [a1] at hg
      obtain rfl := ptr_inj (Option.some.inj hg)
      rw [upd_eq]
      exact h5 rfl
    · rw [upd_ne (by omega)]
      refine a3.mod hm (fun e => ?_)
      subst e
      exact h.ne (a1.trans hg.symm) q hL3
  · rw [upd_ne (by omega)] at q
    obtain ⟨g', a1, a2, a3⟩ := h.v4 q
    refine ⟨g', a1, a2, ?_⟩
    rcases hi with rfl | rfl
    · rw [upd_ne (by omega)]
      refine a3.mod hm (fun e => ?_)
      subst e
      exact h.ne (hg.trans a1.symm) hL3 q
    · rw [a1] at hg
      obtain rfl := ptr_inj (Option.some.inj hg)
      rw [upd_eq]
      exact h6 rfl
  · rw [upd_ne (by omega)] at h2 h3; exact h.ne h1 h2 h3
  · rcases hi with rfl | rfl
    · rw [upd_ne (by omega)]; exact hL3
    · rw [upd_ne (by omega)] at q ⊢; exact h.d5 q
  · rcases hi with rfl | rfl
    · rw [upd_ne (by omega)] at q ⊢; exact h.d6 q
    · rw [upd_ne (by omega)]; exact hL3
end

def mixT (s : List Int) (k x : Int) : Int := (s.getD 7 0 + xr (xr (rr 6 (s.getD 4 0)) (rr 11 (s.getD 4 0))) (rr 25 (s.getD 4 0)) + xr (an (s.getD 4 0) (s.getD 5 0)) (an (xr 4294967295 (s.getD 4 0)) (s.getD 6 0)) + k + x) % 4294967296
def mixU (s : List Int) : Int := (xr (xr (rr 2 (s.getD 0 0)) (rr 13 (s.getD 0 0))) (rr 22 (s.getD 0 0)) + xr (xr (an (s.getD 0 0) (s.getD 1 0)) (an (s.getD 0 0) (s.getD 2 0))) (an (s.getD 1 0) (s.getD 2 0))) % 4294967296
def mixStep (s : List Int) (k x : Int) : List Int := [pl (mixT s k x) (mixU s), s.getD 0 0, s.getD 1 0, s.getD 2 0, pl (s.getD 3 0) (mixT s k x), s.getD 4 0, s.getD 5 0, s.getD 6 0]
def mixTo (hs ks ws : List Int) (n : Nat) : List Int := (List.range n).foldl (fun s i => mixStep s (ks.getD i 0) (ws.getD i 0)) hs
def addTo (hs s : List Int) (n : Nat) : List Int := (List.range n).foldl (fun h i => h.set i (pl (h.getD i 0) (s.getD i 0))) hs
def mixF (hs ks bs : List Int) : List Int := addTo hs (mixTo hs ks (spreadF bs) 64) 8

/-- what stands in memory while a block is mixed -/
structure MixO (w0 : World) (hs ks F z8 s : List Int) (g7 g8 : Nat) (w : World) : Prop where
  k3 : Ws 170 w w0.heap.size hs
  k4 : Ws 171 w (w0.heap.size + 1) ks
  k6 : Ws 170 w (w0.heap.size + 1 + 1) z8
  k7 : Ws 171 w g7 F
  k8 : Ws 170 w g8 s
  m : Mod (fun _ => False) w0 w
theorem MixO.mod {w0 w w' : World} {hs ks F z8 s : List Int} {g7 g8 : Nat} (h : MixO w0 hs ks F z8 s g7 g8 w) (hm : Mod (fun _ => False) w w') : MixO w0 hs ks F z8 s g7 g8 w' :=
  ⟨h.k3.mod hm (fun h => h), h.k4.mod hm (fun h => h), h.k6.mod hm (fun h => h), h.k7.mod hm (fun h => h), h.k8.mod hm (fun h => h), h.m.trans hm (fun _ _ h => h)⟩
/-- the state is written anew -/
theorem MixO.put {w0 w w' : World} {hs ks F z8 s s' : List Int} {g7 g8 : Nat} (h : MixO w0 hs ks F z8 s g7 g8 w) (h8 : w0.heap.size + 3 ≤ g8) (hne : g7 ≠ g8) (hm : Mod (fun k => k = g8) w w') (hs' : Ws 170 w' g8 s') : MixO w0 hs ks F z8 s' g7 g8 w' :=
  ⟨h.k3.mod hm (by omega), h.k4.mod hm (by omega), h.k6.mod hm (by omega), h.k7.mod hm hne, hs', h.m.trans hm (fun k hk e => by omega)⟩
theorem MixO.put3 {w0 w w' : World} {hs hs' ks F z8 s : List Int} {g7 g8 : Nat} (h : MixO w0 hs ks F z8 s g7 g8 w) (h7 : w0.heap.size + 3 ≤ g7) (h8 : w0.heap.size + 3 ≤ g8) (hm : Mod (fun k => k = w0.heap.size) w w') (hs3 : Ws 170 w' w0.heap.size hs') : MixO w0 hs' ks F z8 s g7 g8 w' :=
  ⟨hs3, h.k4.mod hm (by omega), h.k6.mod hm (by omega), h.k7.mod hm (by omega), h.k8.mod hm (by omega), h.m.trans hm (fun k hk e => by omega)⟩
theorem mixTo_succ (hs ks ws : List Int) (n : Nat) : mixTo hs ks ws (n + 1) = mixStep (mixTo hs ks ws n) (ks.getD n 0) (ws.getD n 0) := by unfold mixTo; rw [List.range_succ, List.foldl_append]; rfl
theorem mixTo_len (hs ks ws : List Int) (h : hs.length = 8) (n : Nat) : (mixTo hs ks ws n).length = 8 := by
  cases n with
  | zero => exact h
  | succ n => rw [mixTo_succ]; rfl
theorem addTo_succ (hs s : List Int) (n : Nat) : addTo hs s (n + 1) = (addTo hs s n).set n (pl ((addTo hs s n).getD n 0) (s.getD n 0)) := by unfold addTo; rw [List.range_succ, List.foldl_append]; rfl
theorem addTo_len (hs s : List Int) (n : Nat) : (addTo hs s n).length = hs.length := by
  induction n with
  | zero => rfl
  | succ n ih => rw [addTo_succ, List.length_set, ih]

set_option maxHeartbeats 2000000 in
theorem mix_any (hs ks : List Int) (hl8 : hs.length = 8) (hl64 : ks.length = 64) (v : Value) (bs : List Int) (w : World) (h : RdB w v bs) (hbl : ∀ g, v.ownBlock = some g → g < w.heap.size) (h64 : 64 ≤ bs.length) :
    Calls Try.prog 136 #[.agg (hs.map wv).toArray, .agg (ks.map wv).toArray, v] w fun e w' => e = .returned (.agg ((mixF hs ks bs).map wv).toArray) ∧ Mod (fun _ => False) w w' := by
  obtain ⟨F, hF⟩ : ∃ F, F = spreadF bs := ⟨_, rfl⟩
  obtain ⟨z8, hz8⟩ : ∃ z, z = List.replicate 8 (0 : Int) := ⟨_, rfl⟩
  obtain ⟨z64, hz64⟩ : ∃ z, z = List.replicate 64 (0 : Int) := ⟨_, rfl⟩
  have hFl : F.length = 64 := by rw [hF]; exact spreadF_len bs
  have hz8l : z8.length = 8 := by rw [hz8]; simp
  have hz64l : z64.length = 64 := by rw [hz64]; simp
  have HR := Lib.hid h
  have HB := Lib.hid hbl
  have HF := Lib.hid hF
  have HZ8 := Lib.hid hz8
  have HZ64 := Lib.hid hz64
  have HL8 := Lib.hid hl8
  have HL64 := Lib.hid hl64
  have HFL := Lib.hid hFl
  have HZ8L := Lib.hid hz8l
  have HZ64L := Lib.hid hz64l
  clear h hbl hF hz8 hz64 hl8 hl64 hFl hz8l hz64l
  go_enter Try.func136, Try.ntmps136
  go_wp2_with fail
  change Code.wp _ _ _ _ (((w.alloc (.cells (hs.map wv).toArray 170)).alloc (.cells (ks.map wv).toArray 171)).alloc (.cells ((List.replicate 8 0).map wv).toArray 170))
  obtain ⟨w1, hw1⟩ : ∃ x, x = (((w.alloc (.cells (hs.map wv).toArray 170)).alloc (.cells (ks.map wv).toArray 171)).alloc (.cells ((List.replicate 8 0).map wv).toArray 170)) := ⟨_, rfl⟩
  have A3 : Ws 170 w1 w.heap.size hs := by rw [hw1]; exact ((Cs.new w _ _).alloc _).alloc _
  have A4 : Ws 171 w1 (w.heap.size + 1) ks := by
    rw [hw1, show w.heap.size + 1 = (w.alloc (.cells (hs.map wv).toArray 170)).heap.size by simp]
    exact (Cs.new _ _ _).alloc _
  have A6 : Ws 170 w1 (w.heap.size + 1 + 1) z8 := by
    rw [hw1, HZ8.out, show w.heap.size + 1 + 1 = ((w.alloc (.cells (hs.map wv).toArray 170)).alloc (.cells (ks.map wv).toArray 171)).heap.size by simp]
    exact Cs.new _ _ _
  have hm1 : Mod (fun _ => False) w w1 := by rw [hw1]; exact (((Mod.refl _ _).alloc _).alloc _).alloc _
  have hs1 : w1.heap.size = w.heap.size + 3 := by rw [hw1]; simp
  rw [← hw1]
  clear hw1
  have K3 := Lib.hid A3
  have K4 := Lib.hid A4
  have K6 := Lib.hid A6
  have KM := Lib.hid hm1
  clear A3 A4 A6 hm1
  generalize ha0 : Act.mk _ _ = a0
  have e2 : a0.eval (.tmp 2) = v := by rw [← ha0]; rfl
  have e3 : a0.eval (.tmp 3) = .pointer (some ⟨w.heap.size, 0, none⟩) := by rw [← ha0]; rfl
  have hsz : a0.tmps.size = 118 := by rw [← ha0]; rfl
  have HA0 := Lib.hid ha0
  clear ha0
  refine wp_region_each (by kernel_rfl) (by kernel_rfl) [17, 18, 19, 7, 8] (MixI w1 v hs F z8 z64 w.heap.size) ?_ ⟨?_, ?_, ?_, ?_, ?_, ?_, ?_, trivial⟩ ?_
  · exact ⟨(Mod.refl _ _).drew, K3.out, (fun h => by cases h), (fun h => by cases h), (fun h => by cases h), (fun h => by cases h), (fun h => by cases h), (fun _ h => by cases h), (fun h => by cases h), (fun h => by cases h)⟩
  · intro L vs w' hL hd hl hI
    exact wpOp_run rfl rfl (ex_move rfl (by rw [eval_out _ _ _ _ (by decide)]; exact e2)) ⟨_, putAll_put _ _ _ 0 17 _ (by decide) hl rfl, by simpa using hl, hI.val hl 0 (by omega) _ rfl⟩
  · intro L vs w' hL hd hl hI
    have h0 := hI.v0 (hd ⟨0, .data⟩ (by simp) rfl)
    have hm := KM.out.trans hI.mod (fun _ _ h => h)
    have hsp := spread_any v bs w' (HR.out.mod hm (fun _ _ _ h => h)) (fun g hg => by have := HB.out g hg; have := hm.size; omega) h64
    refine wpOp_call (args := #[v]) rfl rfl (by rw [ex_callF rfl Try.func155 (by kernel_rfl) (by kernel_rfl)]; simp [eval_in a0 _ vs 0 17 v (by decide) hl rfl (by omega) h0]) hsp ?_
    rintro e w2 ⟨rfl, hm2⟩
    exact ⟨_, rfl, _, putAll_put _ _ _ 1 18 _ (by decide) hl rfl, by simpa using hl, (hI.world hm2).val hl 1 (by omega) _ (by rw [HF.out]; rfl)⟩
  · intro L vs w' hL hd hl hI
    exact wpOp_run rfl rfl (ex_loadA rfl Try.underlying170 rfl (g := w.heap.size) (off := 0) (cs := hs.map wv) (by rw [List.length_map, HL8.out]; exact size_a8) (by rw [eval_out _ _ _ _ (by decide)]; exact e3) (fun j u hu => by rw [Nat.zero_add, Cs.cell hI.b3]; simpa using hu))
      ⟨_, putAll_put _ _ _ 2 19 _ (by decide) hl rfl, by simpa using hl, hI.val hl 2 (by omega) _ rfl⟩
  · intro L vs w' hL hd hl hI
    obtain ⟨info, hi, hz⟩ := zero_of zero_a64
    have hal := hI.al3 hl hL
    rw [HZ64.out, ← repl_eq 64] at hal
    rw [← HZ64.out] at hal
    exact wpOp_run rfl rfl (ex_alloc rfl hi hz) ⟨_, putAll_put _ _ _ 3 7 _ (by decide) hl rfl, by simpa using hl, hal⟩
  · intro L vs w' hL hd hl hI
    obtain ⟨info, hi, hz⟩ := zero_of zero_a8
    have hal := hI.al4 hl hL
    rw [HZ8.out, ← repl_eq 8] at hal
    rw [← HZ8.out] at hal
    exact wpOp_run rfl rfl (ex_alloc rfl hi hz) ⟨_, putAll_put _ _ _ 4 8 _ (by decide) hl rfl, by simpa using hl, hal⟩
  · intro L vs w' hL hd hl hI
    have hL3 := hd ⟨3, .data⟩ (by simp) rfl
    have h1 := hI.v1 (hd ⟨1, .data⟩ (by simp) rfl)
    have h5f : L 5 = false := hL
    obtain ⟨g, a1, a2, a3⟩ := hI.v3 hL3
    rw [h5f] at a3
    refine wpOp_skip rfl rfl (ex_storeA rfl a3 (off := 0) (vs := F.map wv) (by rw [List.length_map, HFL.out]; exact size_a64) (wv_one _) (by simp [HFL.out, HZ64L.out]) (eval_in a0 _ vs 3 7 _ (by decide) hl rfl (by omega) a1) (by rw [eval_in a0 _ vs 1 18 _ (by decide) hl rfl (by omega) h1]; rfl)) ⟨vs, rfl, hl, ?_⟩
    rw [lay_whole _ _ (by simp [HFL.out, HZ64L.out])]
    exact hI.st (by omega) 5 (Or.inl rfl) a1 a2 hL3 setRow_Mod (fun _ => setRow_Cs a3) (fun h => by cases h)
  · intro L vs w' hL hd hl hI
    have hL3 := hd ⟨4, .data⟩ (by simp) rfl
    have h1 := hI.v2 (hd ⟨2, .data⟩ (by simp) rfl)
    have h5f : L 6 = false := hL
    obtain ⟨g, a1, a2, a3⟩ := hI.v4 hL3
    rw [h5f] at a3
    refine wpOp_skip rfl rfl (ex_storeA rfl a3 (off := 0) (vs := hs.map wv) (by rw [List.length_map, HL8.out]; exact size_a8) (wv_one _) (by simp [HL8.out, HZ8L.out]) (eval_in a0 _ vs 4 8 _ (by decide) hl rfl (by omega) a1) (by rw [eval_in a0 _ vs 2 19 _ (by decide) hl rfl (by omega) h1]; rfl)) ⟨vs, rfl, hl, ?_⟩
    rw [lay_whole _ _ (by simp [HL8.out, HZ8L.out])]
    exact hI.st (by omega) 6 (Or.inr rfl) a1 a2 hL3 setRow_Mod (fun h => by cases h) (fun _ => setRow_Cs a3)
  intro L vs w2 hL hl hI
  obtain ⟨g7, a1, a2, a3⟩ := hI.v3 (hL 3 (by decide))
  obtain ⟨g8, b1, b2, b3⟩ := hI.v4 (hL 4 (by decide))
  have hne : g7 ≠ g8 := fun e => hI.ne (by rw [a1, b1, e]) (hL 3 (by decide)) (hL 4 (by decide))
  rw [if_pos (hL 5 (by decide))] at a3
  rw [if_pos (hL 6 (by decide))] at b3
  have hm := hI.mod
  have K3' := Lib.hid (K3.out.mod hm (fun h => h))
  have K4' := Lib.hid (K4.out.mod hm (fun h => h))
  have K6' := Lib.hid (K6.out.mod hm (fun h => h))
  have KM' := Lib.hid (KM.out.trans hm (fun _ _ h => h))
  have K7 := Lib.hid a3
  have K8 := Lib.hid b3
  match vs, hl with
  | [u17, u18, u19, p7, p8], _ =>
  obtain rfl : p7 = _ := Option.some.inj a1
  obtain rfl : p8 = _ := Option.some.inj b1
  have zg7 := a3.lt
  have zg8 := b3.lt
  clear K3 K4 K6 KM a3 b3 hI a1 b1 hL e2 e3 hsz hm
  have ha0 := HA0.out
  subst ha0
  clear HA0
  simp only [putAll, Act.put, List.setIfInBounds_toArray, List.set_cons_zero, List.set_cons_succ]
  have hO : MixO w hs ks F z8 hs g7 g8 w2 := ⟨K3'.out, K4'.out, K6'.out, K7.out, K8.out, KM'.out⟩
  have HO := Lib.hid hO
  clear hO K3' K4' K6' K7 K8 KM'
  have hg7 : w.heap.size + 3 ≤ g7 := by omega
  have hg8 : w.heap.size + 3 ≤ g8 := by omega
  have HNE := Lib.hid hne
  clear hne a2 b2
  go_wp2
  go_loopw [20] (fun t20 wr => ∃ (i : Nat), t20 = .int .i64 i ∧ i ≤ 64 ∧ MixO w hs ks F z8 (mixTo hs ks F i) g7 g8 wr) (fun t20 _ => 64 - (intOf t20).toNat)
  case atStart => exact ⟨0, rfl, by omega, HO.out⟩
  case round =>
    obtain ⟨wi, rfl⟩ : ∃ x, x = wr := ⟨_, rfl⟩
    obtain ⟨i, rfl, hi, hO⟩ := hrel
    have hsl := mixTo_len hs ks F HL8.out i
    have hsucc := mixTo_succ hs ks F i
    obtain ⟨s, hs'⟩ : ∃ s, s = mixTo hs ks F i := ⟨_, rfl⟩
    rw [← hs'] at hO hsl hsucc
    have KO := Lib.hid hO
    have HS := Lib.hid hsucc
    have HSE := Lib.hid hs'
    clear hO hsucc hs'
    by_cases hlt : i < 64
    · match s, hsl with
      | [s0, s1, s2, s3, s4, s5, s6, s7], _ =>
      obtain ⟨k, hk⟩ : ∃ k, k = ks.getD i 0 := ⟨_, rfl⟩
      obtain ⟨x, hx⟩ : ∃ x, x = F.getD i 0 := ⟨_, rfl⟩
      have HK := Lib.hid hk
      have HX := Lib.hid hx
      clear hk hx
      have c0 : wi.cell? ⟨g8, 0, none⟩ = some (wv s0) := KO.out.k8.cell (j := 0) (by simp)
      have c4 : wi.cell? ⟨g8, 4, none⟩ = some (wv s4) := KO.out.k8.cell (j := 4) (by simp)
      go_wp2_with fail
      go_quiet (fail)
      clear c0 c4
      obtain ⟨w3, hw3⟩ : ∃ x, x = wi.drewN nq := ⟨_, rfl⟩
      have KO2 := Lib.hid (KO.out.mod (mod_of_drewN ⟨nq, hw3⟩ (fun _ => False)))
      rw [← hw3]
      clear hw3 KO
      go_wp2_with (first | (go_at_call 156; (with_reducible refine (RL_6 _ _).mono ?_); rintro e w' ⟨rfl, rfl⟩) | (go_at_call 156; (with_reducible refine (RL_11 _ _).mono ?_); rintro e w' ⟨rfl, rfl⟩) | (go_at_call 156; (with_reducible refine (RL_25 _ _).mono ?_); rintro e w' ⟨rfl, rfl⟩))
      have hsg : (if IntKind.u32.signed = true then (-1 : Int) else IntKind.u32.max) = 4294967295 := rfl
      have c5 : w3.cell? ⟨g8, 5, none⟩ = some (wv s5) := KO2.out.k8.cell (j := 5) (by simp)
      have c6 : w3.cell? ⟨g8, 6, none⟩ = some (wv s6) := KO2.out.k8.cell (j := 6) (by simp)
      have c7 : w3.cell? ⟨g8, 7, none⟩ = some (wv s7) := KO2.out.k8.cell (j := 7) (by simp)
      have ck : w3.cell? ⟨w.heap.size + 1, i, none⟩ = some (wv k) := by rw [HK.out]; exact KO2.out.k4.cell (by rw [HL64.out]; omega)
      have cx : w3.cell? ⟨g7, i, none⟩ = some (wv x) := by rw [HX.out]; exact KO2.out.k7.cell (by rw [HFL.out]; omega)
      go_quiet (fail)
      clear c5 c6 c7 ck cx hsg
      obtain ⟨w4, hw4⟩ : ∃ x, x = w3.drewN nq := ⟨_, rfl⟩
      have KO3 := Lib.hid (KO2.out.mod (mod_of_drewN ⟨nq, hw4⟩ (fun _ => False)))
      rw [← hw4]
      clear hw4 KO2
      have c0 : w4.cell? ⟨g8, 0, none⟩ = some (wv s0) := KO3.out.k8.cell (j := 0) (by simp)
      have c1 : w4.cell? ⟨g8, 1, none⟩ = some (wv s1) := KO3.out.k8.cell (j := 1) (by simp)
      have c2 : w4.cell? ⟨g8, 2, none⟩ = some (wv s2) := KO3.out.k8.cell (j := 2) (by simp)
      have c3 : w4.cell? ⟨g8, 3, none⟩ = some (wv s3) := KO3.out.k8.cell (j := 3) (by simp)
      have c4 : w4.cell? ⟨g8, 4, none⟩ = some (wv s4) := KO3.out.k8.cell (j := 4) (by simp)
      have c5 : w4.cell? ⟨g8, 5, none⟩ = some (wv s5) := KO3.out.k8.cell (j := 5) (by simp)
      have c6 : w4.cell? ⟨g8, 6, none⟩ = some (wv s6) := KO3.out.k8.cell (j := 6) (by simp)
      have HF8 := Lib.hid (show 0 + ((mixStep [s0, s1, s2, s3, s4, s5, s6, s7] k x).map wv).length ≤ ([s0, s1, s2, s3, s4, s5, s6, s7].map wv).toArray.size by simp [mixStep])
      have HS8 := Lib.hid (show (Try.prog.info? 170).map (·.size) = some ((mixStep [s0, s1, s2, s3, s4, s5, s6, s7] k x).map wv).length from size_a8)
      have HLY := Lib.hid (lay_whole ([s0, s1, s2, s3, s4, s5, s6, s7].map wv).toArray ((mixStep [s0, s1, s2, s3, s4, s5, s6, s7] k x).map wv) (by simp [mixStep]))
      go_upto_region 10 with (first | (go_at_call 156; (with_reducible refine (RL_2 _ _).mono ?_); rintro e w' ⟨rfl, rfl⟩) | (go_at_call 156; (with_reducible refine (RL_13 _ _).mono ?_); rintro e w' ⟨rfl, rfl⟩) | (go_at_call 156; (with_reducible refine (RL_22 _ _).mono ?_); rintro e w' ⟨rfl, rfl⟩))
      go_wp2_with ((with_reducible show wpList _ _ _ (Oper.mk none (Op.store 170 (.tmp 8) (.tmp 102)) _ _ _ _ :: _) _ _); refine wpList_storeA rfl 170 (.tmp 8) (.tmp 102) rfl KO3.out.k8 (off := 0) (vs := (mixStep [s0, s1, s2, s3, s4, s5, s6, s7] k x).map wv) HS8.out (wv_one _) HF8.out rfl ?_ ?_)
      · dsimp only [Act.eval]
        simp [Value.cells, mixStep, mixT, mixU, pl, xr, an]
        trace_state
      · intro w5 hc5 hm5
        have hk8 : Ws 170 w5 g8 (mixStep [s0, s1, s2, s3, s4, s5, s6, s7] k x) := by unfold Ws; rw [← HLY.out]; exact hc5
        have KO5 := Lib.hid (KO3.out.put hg8 HNE.out hm5 hk8)
        clear hc5 hm5 hk8 KO3 c0 c1 c2 c3 c4 c5 c6
        go_wp2
        go_roundw
        case rel => exact ⟨i + 1, by go_num, by omega, by rw [HS.out, ← HK.out, ← HX.out]; exact KO5.out⟩
        case measure => first | (simp [intOf]; done) | (simp [intOf]; omega)
    · obtain rfl : i = 64 := by omega
      rw [HSE.out] at HS KO
      obtain ⟨S, hS⟩ : ∃ S, S = mixTo hs ks F 64 := ⟨_, rfl⟩
      rw [← hS] at KO
      have hSl : S.length = 8 := by rw [hS]; exact mixTo_len hs ks F HL8.out 64
      have HSS := Lib.hid hS
      have HSL := Lib.hid hSl
      clear hS hSl HS HSE hsl
      rw [show ((64 : Nat) : Int) = 64 from rfl]
      go_wp2
      go_loopw [104] (fun t104 wr => ∃ (i : Nat), t104 = .int .i64 i ∧ i ≤ 8 ∧ MixO w (addTo hs S i) ks F z8 S g7 g8 wr) (fun t104 _ => 8 - (intOf t104).toNat)
      case atStart => exact ⟨0, rfl, by omega, KO.out⟩
      case round =>
        obtain ⟨wj, rfl⟩ : ∃ x, x = wr := ⟨_, rfl⟩
        obtain ⟨i, rfl, hi, hO⟩ := hrel
        clear KO
        have hsl := addTo_len hs S i
        have hsucc := addTo_succ hs S i
        obtain ⟨A, hA⟩ : ∃ A, A = addTo hs S i := ⟨_, rfl⟩
        rw [← hA] at hO hsl hsucc
        rw [HL8.out] at hsl
        have KO := Lib.hid hO
        have HS := Lib.hid hsucc
        have HAL := Lib.hid hsl
        have HAA := Lib.hid hA
        clear hO hsucc hsl hA
        by_cases hlt : i < 8
        · obtain ⟨x, hx⟩ : ∃ x, x = A.getD i 0 := ⟨_, rfl⟩
          obtain ⟨y, hy⟩ : ∃ y, y = S.getD i 0 := ⟨_, rfl⟩
          have c3 : wj.cell? ⟨w.heap.size, i, none⟩ = some (wv x) := by rw [hx]; exact KO.out.k3.cell (by rw [HAL.out]; omega)
          have f3 := KO.out.k3.frozen i
          have c8 : wj.cell? ⟨g8, i, none⟩ = some (wv y) := by rw [hy]; exact KO.out.k8.cell (by rw [HSL.out]; omega)
          rw [← hx, ← hy] at HS
          have HX := Lib.hid hx
          have HY := Lib.hid hy
          have hset := KO.out.k3.set i (pl x y)
          have hm : Mod (fun k => k = w.heap.size) wj (wj.setCell ⟨w.heap.size, i, none⟩ (wv (pl x y))) := Mod.setCell (Mod.refl (fun k => k = w.heap.size) wj) (p := ⟨w.heap.size, i, none⟩) (fun _ => rfl) _
          have hko := KO.out.put3 hg7 hg8 hm hset
          rw [← HS.out] at hko
          have KO2 := Lib.hid hko
          have HV := Lib.hid (show pl x y = IntKind.u32.wrap (x + y) by simp only [pl, IntKind.wrap_u32])
          have b0 : (0 : Int) ≤ i := by omega
          have b1 : (i : Int) < 8 := by omega
          clear hx hy hset hm hko
          go_wp2_with fail
          go_region_law (fail)
          all_goals
            clear c3 f3 c8
            rw [← HV.out]
            go_wp2
            go_roundw
            case rel => exact ⟨i + 1, by go_num, by omega, KO2.out.mod ((Mod.refl (fun _ => False) _).drew)⟩
            case measure => first | (simp [intOf]; done) | (simp [intOf]; omega)
        · obtain rfl : i = 8 := by omega
          have hR : A = mixF hs ks bs := by rw [HAA.out, HSS.out, HF.out]; rfl
          have HRR := Lib.hid hR
          have HCELL := Lib.hid (show ∀ k u, (A.map wv)[k]? = some u → wj.cell? ⟨w.heap.size, 0 + k, none⟩ = some u by
            intro k u hu
            rw [Nat.zero_add, Cs.cell KO.out.k3]
            simpa using hu)
          have HSA := Lib.hid (show (Try.prog.info? 170).map (·.size) = some (A.map wv).length by rw [List.length_map, HAL.out]; exact size_a8)
          have HFA := Lib.hid (show 0 + (A.map wv).length ≤ (z8.map wv).toArray.size by simp [HAL.out, HZ8L.out])
          have HLY := Lib.hid (lay_whole (z8.map wv).toArray (A.map wv) (by simp [HAL.out, HZ8L.out]))
          clear hR
          go_upto_region 17 with (fail)
          go_step
          refine wpList_loadA rfl 170 (.tmp 3) rfl Try.underlying170 rfl (g := w.heap.size) (off := 0) (cs := A.map wv) HSA.out rfl HCELL.out ?_
          simp only [Act.put, List.setIfInBounds_toArray, List.set_cons_zero, List.set_cons_succ]
          refine wpList_storeA rfl 170 (.tmp 6) (.tmp 117) rfl KO.out.k6 (vs := A.map wv) HSA.out (wv_one _) HFA.out rfl rfl ?_
          intro w5 hc5 hm5
          rw [HLY.out] at hc5
          go_wp2
          refine bodyPost_ret (results_cellA rfl _ _ (w.heap.size + 1 + 1) (A.map wv) rfl (fun k u hu => by rw [hc5.cell]; simpa using hu) Try.underlying170 rfl HSA.out) rfl ⟨by rw [HRR.out], KO.out.m.trans (hm5.mono (S' := fun k => k = w.heap.size + 1 + 1) (fun k _ hk => hk)) (by intro k h1 h2; omega)⟩
end Go.Proofs.Ytknpapcfhnhheaa

/- The rounds' numbers; an element of an array value; SHA-256 in plain words. -/
set_option maxRecDepth 100000
set_option linter.unusedVariables false
namespace Go.Proofs.Ytknpapcfhnhheaa
open Go Go.RowKit Go.Gv

def K256 : List Int := [1116352408, 1899447441, 3049323471, 3921009573, 961987163, 1508970993, 2453635748, 2870763221, 3624381080, 310598401, 607225278, 1426881987, 1925078388, 2162078206, 2614888103, 3248222580, 3835390401, 4022224774, 264347078, 604807628, 770255983, 1249150122, 1555081692, 1996064986, 2554220882, 2821834349, 2952996808, 3210313671, 3336571891, 3584528711, 113926993, 338241895, 666307205, 773529912, 1294757372, 1396182291, 1695183700, 1986661051, 2177026350, 2456956037, 2730485921, 2820302411, 3259730800, 3345764771, 3516065817, 3600352804, 4094571909, 275423344, 430227734, 506948616, 659060556, 883997877, 958139571, 1322822218, 1537002063, 1747873779, 1955562222, 2024104815, 2227730452, 2361852424, 2428436474, 2756734187, 3204031479, 3329325298]
def H256 : List Int := [1779033703, 3144134277, 1013904242, 2773480762, 1359893119, 2600822924, 528734635, 1541459225]
theorem K256_len : K256.length = 64 := by decide
theorem K256_arr : (K256.map wv).toArray = #[wv 1116352408, wv 1899447441, wv 3049323471, wv 3921009573, wv 961987163, wv 1508970993, wv 2453635748, wv 2870763221, wv 3624381080, wv 310598401, wv 607225278, wv 1426881987, wv 1925078388, wv 2162078206, wv 2614888103, wv 3248222580, wv 3835390401, wv 4022224774, wv 264347078, wv 604807628, wv 770255983, wv 1249150122, wv 1555081692, wv 1996064986, wv 2554220882, wv 2821834349, wv 2952996808, wv 3210313671, wv 3336571891, wv 3584528711, wv 113926993, wv 338241895, wv 666307205, wv 773529912, wv 1294757372, wv 1396182291, wv 1695183700, wv 1986661051, wv 2177026350, wv 2456956037, wv 2730485921, wv 2820302411, wv 3259730800, wv 3345764771, wv 3516065817, wv 3600352804, wv 4094571909, wv 275423344, wv 430227734, wv 506948616, wv 659060556, wv 883997877, wv 958139571, wv 1322822218, wv 1537002063, wv 1747873779, wv 1955562222, wv 2024104815, wv 2227730452, wv 2361852424, wv 2428436474, wv 2756734187, wv 3204031479, wv 3329325298] := rfl
theorem zero64_arr : ((List.replicate 64 0).map wv).toArray = Array.replicate 64 (wv 0) := by rw [List.map_replicate]; rfl

set_option maxHeartbeats 4000000 in
theorem rounds_any (w : World) : Calls Try.prog 135 #[] w fun e w' => e = .returned (.agg (K256.map wv).toArray) ∧ Mod (fun _ => False) w w' := by
  obtain ⟨k, hk⟩ : ∃ k, k = K256 := ⟨_, rfl⟩
  have hl : k.length = 64 := by rw [hk]; exact K256_len
  have ha : (k.map wv).toArray = #[wv 1116352408, wv 1899447441, wv 3049323471, wv 3921009573, wv 961987163, wv 1508970993, wv 2453635748, wv 2870763221, wv 3624381080, wv 310598401, wv 607225278, wv 1426881987, wv 1925078388, wv 2162078206, wv 2614888103, wv 3248222580, wv 3835390401, wv 4022224774, wv 264347078, wv 604807628, wv 770255983, wv 1249150122, wv 1555081692, wv 1996064986, wv 2554220882, wv 2821834349, wv 2952996808, wv 3210313671, wv 3336571891, wv 3584528711, wv 113926993, wv 338241895, wv 666307205, wv 773529912, wv 1294757372, wv 1396182291, wv 1695183700, wv 1986661051, wv 2177026350, wv 2456956037, wv 2730485921, wv 2820302411, wv 3259730800, wv 3345764771, wv 3516065817, wv 3600352804, wv 4094571909, wv 275423344, wv 430227734, wv 506948616, wv 659060556, wv 883997877, wv 958139571, wv 1322822218, wv 1537002063, wv 1747873779, wv 1955562222, wv 2024104815, wv 2227730452, wv 2361852424, wv 2428436474, wv 2756734187, wv 3204031479, wv 3329325298] := by rw [hk]; exact K256_arr
  obtain ⟨z, hz⟩ : ∃ z, z = List.replicate 64 (0 : Int) := ⟨_, rfl⟩
  have hzl : z.length = 64 := by rw [hz]; simp
  rw [← hk]
  have HS := Lib.hid (show (Try.prog.info? 171).map (·.size) = some (k.map wv).length by rw [List.length_map, hl]; exact size_a64)
  have HF := Lib.hid (show 0 + (k.map wv).length ≤ (z.map wv).toArray.size by simp [hl, hzl])
  have HLY := Lib.hid (lay_whole (z.map wv).toArray (k.map wv) (by simp [hl, hzl]))
  have HK := Lib.hid ha
  have HC := Lib.hid (show Cs (w.alloc (.cells (Array.replicate 64 (wv 0)) 171)) w.heap.size (z.map wv).toArray 171 by rw [hz, zero64_arr]; exact Cs.new _ _ _)
  clear hk hl ha hz hzl
  go_enter Try.func135, Try.ntmps135
  go_wp2_with ((with_reducible show wpList _ _ _ (Oper.mk none (Op.store 171 (.tmp 0) (.tmp 1)) _ _ _ _ :: _) _ _); go_must (refine wpList_storeA rfl 171 (.tmp 0) (.tmp 1) rfl HC.out (off := 0) (vs := k.map wv) HS.out (wv_one _) HF.out rfl HK.out.symm ?_))
  intro w5 hc5 hm5
  rw [HLY.out] at hc5
  go_wp2
  refine bodyPost_ret (results_cellA rfl _ _ w.heap.size (k.map wv) rfl (fun j u hu => by rw [hc5.cell]; simpa using hu) Try.underlying171 rfl HS.out) rfl ⟨rfl, ((Mod.refl (fun _ => False) w).alloc _).trans (hm5.mono (S' := fun k => k = w.heap.size) (fun k _ hk => hk)) (by intro k h1 h2; omega)⟩

set_option maxHeartbeats 4000000 in
theorem ref_rounds_any (w : World) : Calls Try.prog 137 #[] w fun e w' => e = .returned (.agg (K256.map wv).toArray) ∧ Mod (fun _ => False) w w' := by
  obtain ⟨k, hk⟩ : ∃ k, k = K256 := ⟨_, rfl⟩
  have hl : k.length = 64 := by rw [hk]; exact K256_len
  have ha : (k.map wv).toArray = #[wv 1116352408, wv 1899447441, wv 3049323471, wv 3921009573, wv 961987163, wv 1508970993, wv 2453635748, wv 2870763221, wv 3624381080, wv 310598401, wv 607225278, wv 1426881987, wv 1925078388, wv 2162078206, wv 2614888103, wv 3248222580, wv 3835390401, wv 4022224774, wv 264347078, wv 604807628, wv 770255983, wv 1249150122, wv 1555081692, wv 1996064986, wv 2554220882, wv 2821834349, wv 2952996808, wv 3210313671, wv 3336571891, wv 3584528711, wv 113926993, wv 338241895, wv 666307205, wv 773529912, wv 1294757372, wv 1396182291, wv 1695183700, wv 1986661051, wv 2177026350, wv 2456956037, wv 2730485921, wv 2820302411, wv 3259730800, wv 3345764771, wv 3516065817, wv 3600352804, wv 4094571909, wv 275423344, wv 430227734, wv 506948616, wv 659060556, wv 883997877, wv 958139571, wv 1322822218, wv 1537002063, wv 1747873779, wv 1955562222, wv 2024104815, wv 2227730452, wv 2361852424, wv 2428436474, wv 2756734187, wv 3204031479, wv 3329325298] := by rw [hk]; exact K256_arr
  obtain ⟨z, hz⟩ : ∃ z, z = List.replicate 64 (0 : Int) := ⟨_, rfl⟩
  have hzl : z.length = 64 := by rw [hz]; simp
  rw [← hk]
  have HS := Lib.hid (show (Try.prog.info? 171).map (·.size) = some (k.map wv).length by rw [List.length_map, hl]; exact size_a64)
  have HF := Lib.hid (show 0 + (k.map wv).length ≤ (z.map wv).toArray.size by simp [hl, hzl])
  have HLY := Lib.hid (lay_whole (z.map wv).toArray (k.map wv) (by simp [hl, hzl]))
  have HK := Lib.hid ha
  have HC := Lib.hid (show Cs (w.alloc (.cells (Array.replicate 64 (wv 0)) 171)) w.heap.size (z.map wv).toArray 171 by rw [hz, zero64_arr]; exact Cs.new _ _ _)
  clear hk hl ha hz hzl
  go_enter Try.func137, Try.ntmps137
  go_wp2_with ((with_reducible show wpList _ _ _ (Oper.mk none (Op.store 171 (.tmp 0) (.tmp 1)) _ _ _ _ :: _) _ _); go_must (refine wpList_storeA rfl 171 (.tmp 0) (.tmp 1) rfl HC.out (off := 0) (vs := k.map wv) HS.out (wv_one _) HF.out rfl HK.out.symm ?_))
  intro w5 hc5 hm5
  rw [HLY.out] at hc5
  go_wp2
  refine bodyPost_ret (results_cellA rfl _ _ w.heap.size (k.map wv) rfl (fun j u hu => by rw [hc5.cell]; simpa using hu) Try.underlying171 rfl HS.out) rfl ⟨rfl, ((Mod.refl (fun _ => False) w).alloc _).trans (hm5.mono (S' := fun k => k = w.heap.size) (fun k _ hk => hk)) (by intro k h1 h2; omega)⟩

theorem wpList_idxA {P : Program} {ops : Array Oper} {rest : List Oper} {o : Oper} {a : Act} {w : World} {Q : Exit → Act → World → Prop} (hgd : o.guard = none) (ty : TypeId) (x y : Operand) (ho : o.op = .index ty x y)
    {e : TypeId} {n : Nat} {k : IntKind} (hu : P.underlying ty = some (.array n e)) (he : P.underlying e = some (.int k)) (hsz : (P.info? e).map (·.size) = some 1) (xs : List Int) (hl : xs.length = n) {j : IntKind} {i : Nat} (hi : i < n)
    (hx : a.eval x = .agg (xs.map (Value.int k)).toArray) (hy : a.eval y = .int j i)
    (h : wpList P ops Q rest (a.put o.dst (.int k (xs.getD i 0))) w) : wpList P ops Q (o :: rest) a w := by
  refine wpList_plain hgd fun K hK => ?_
  have hsz' : (sizeOf e).run P w = .ok 1 w := by
    cases hq : P.info? e with
    | none => simp [hq] at hsz
    | some i => have : i.size = 1 := by simpa [hq] using hsz
                simp [sizeOf, typeInfo, hq, this]
  have hp : (part e (xs.map (Value.int k)).toArray (i * 1)).run P w = .ok (.int k (xs.getD i 0)) w := by
    simp [part, isAgg, run_underlying he, List.getD, List.getElem?_eq_getElem (show i < xs.length by omega)]
  have hr : (Instr.index ty (.agg (xs.map (Value.int k)).toArray) (.int j i)).run P w = .ok (.int k (xs.getD i 0)) w := by
    simp only [Instr.index, asIntOf, Sem.run_bind, Sem.run_pure, Result.andThen_ok, run_underlying hu]
    rw [if_pos (by omega)]
    simp only [Sem.run_bind, hsz', Result.andThen_ok, Int.toNat_natCast, hp]
  unfold Oper.wp execOp
  simp only [ho, hx, hy, Sem.run_bind, Sem.run_pure, Result.andThen_ok, hr]
  exact hK _ _ h
end Go.Proofs.Ytknpapcfhnhheaa

/- gavellaw01.Act: a call, as an argument holds it. -/
set_option maxRecDepth 100000
set_option linter.unusedVariables false
namespace Go.Proofs.Ytknpapcfhnhheaa
open Go Go.RowKit Go.Gv Go.ChangeShapes Go.WideShapes Go.ChangeAt Go.Deep

structure Act01 where
  Do : Int
  N : Int
  U : Nat
  VB : Value
  B : List Int
  H : List Int
instance : Inhabited Act01 := ⟨⟨0, 0, 0, .slice none 0 0, [], List.replicate 32 0⟩⟩
def Act01.tail (a : Act01) : List Value := (List.range 32).map fun i => bv (a.H.getD i 0)
def Act01.cells (a : Act01) : List Value := .int .i64 a.Do :: .int .i64 a.N :: .int .u64 a.U :: a.VB :: a.tail
structure Act01.Ok (W : World) (a : Act01) : Prop where
  d : -9223372036854775808 ≤ a.Do ∧ a.Do ≤ 9223372036854775807
  n : -9223372036854775808 ≤ a.N ∧ a.N ≤ 9223372036854775807
  u : a.U < U64
  b : RdR (fun k => k < W.heap.size) a.B.length W a.VB a.B
  h : a.H.length = 32
  hb : Bytes a.H
theorem Act01.len (a : Act01) : a.cells.length = 36 := by simp [Act01.cells, Act01.tail]
theorem Act01.tail_eq {a : Act01} (h : a.H.length = 32) : a.tail = a.H.map bv := by
  apply List.ext_getElem
  · simp [Act01.tail, h]
  · intro i h1 h2
    simp only [Act01.tail, List.length_map, List.length_range] at h1
    simp [Act01.tail, List.getD, List.getElem?_eq_getElem (show i < a.H.length by omega)]

theorem cells_i64 : Try.prog.cellsOf 3 = 1 := by kernel_rfl
theorem cells_u64 : Try.prog.cellsOf 26 = 1 := by kernel_rfl
theorem cells_u8 : Try.prog.cellsOf 5 = 1 := by kernel_rfl
theorem cells_bytes : Try.prog.cellsOf 38 = 1 := by kernel_rfl
theorem cells_hash : Try.prog.cellsOf 25 = 32 := by kernel_rfl
abbrev RdA := @RdE Act01 36 Act01.cells
end Go.Proofs.Ytknpapcfhnhheaa

/- Local copies of an Act; lent texts with their blocks. -/
set_option maxRecDepth 100000
set_option linter.unusedVariables false
namespace Go.Proofs.Ytknpapcfhnhheaa
open Go Go.RowKit Go.Gv

section
variable {α : Type} {s : Nat} {cells : α → List Value} {R R' S : Nat → Prop} {w w' : World} {v : Value} {l : List α}
theorem RdE.shape (h : RdE s cells R w v l) : ∃ ao cap, v = .slice ao l.length cap ∧ l.length ≤ maxLen := by
  rcases h with ⟨rfl, ao, cap, rfl⟩ | ⟨g, o, cap, _, rfl, _, h1, h2, _⟩
  · exact ⟨ao, cap, rfl, by simp⟩
  · exact ⟨_, cap, rfl, by omega⟩
theorem RdE.at {ao : Option Addr} {n cap : Nat} (h : RdE s cells R w (.slice ao n cap) l) {i : Nat} (hi : i < l.length) :
    ∃ g o, ao = some ⟨g, o, none⟩ ∧ ∀ j u, (cells l[i])[j]? = some u → w.cell? ⟨g, o + i * s + j, none⟩ = some u := by
  rcases h with ⟨rfl, _⟩ | ⟨g, o, cap', _, e, _, _, _, h6⟩
  · exact absurd hi (by simp)
  · simp only [Value.slice.injEq] at e
    exact ⟨g, o, e.1, fun j u => h6 i hi j u⟩
theorem RdE.widen (h : RdE s cells R w v l) (hs : ∀ k, R k → R' k) : RdE s cells R' w v l := by
  rcases h with h | ⟨g, o, cap, h1, h2⟩
  · exact .inl h
  · exact .inr ⟨g, o, cap, hs g h1, h2⟩
end

section
variable {R R' S : Nat → Prop} {w w' : World} {g : Nat} {a : Act01}
end
theorem Act01.lay3 (a : Act01) (v : Value) : lay a.cells.toArray 3 [v] = ({a with VB := v} : Act01).cells.toArray := by
  simp [lay, Act01.cells, Act01.tail]
theorem Act01.one {W : World} {a : Act01} (h : a.Ok W) : ∀ u ∈ a.cells, u.oneCell' = true := by
  intro u hu
  obtain ⟨ao, cap, e⟩ := h.b.shape
  simp only [Act01.cells, Act01.tail, List.mem_cons, List.mem_map] at hu
  rcases hu with rfl | rfl | rfl | rfl | ⟨i, _, rfl⟩
  · rfl
  · rfl
  · rfl
  · rw [e]; rfl
  · rfl
/-- a lent text with its block -/
def LentR (R : Nat → Prop) (N : Nat) (w : World) (v : Value) (bs : List Int) : Prop := Lent w v bs ∧ (∀ g, v.ownBlock = some g → R g) ∧ Bytes bs ∧ bs.length ≤ N ∧ N ≤ 1000000
section
variable {R R' S : Nat → Prop} {N M : Nat} {w w' : World} {v : Value} {bs : List Int}
theorem LentR.mod (h : LentR R N w v bs) (hm : Mod S w w') (hs : ∀ k, R k → S k → False) : LentR R N w' v bs := by
  obtain ⟨⟨g, rfl, hc⟩, h2, h3⟩ := h
  exact ⟨⟨g, rfl, hc.mod hm (hs g (h2 g rfl))⟩, h2, h3⟩
theorem LentR.widen (h : LentR R N w v bs) (hs : ∀ k, R k → R' k) (_hM : N ≤ N) : LentR R' N w v bs := ⟨h.1, fun g hg => hs g (h.2.1 g hg), h.2.2⟩
theorem LentR.rd (h : LentR R N w v bs) : RdR R N w v bs := by
  obtain ⟨⟨g, rfl, hc⟩, h2, h3, h4, h5⟩ := h
  refine ⟨⟨h3, ?_⟩, fun _ => h2, h4⟩
  refine Rd.mk (by omega) (by rw [maxLen_val]; omega) (by simp) fun j u hu => ?_
  rw [Nat.zero_add, hc.cell]
  have hj : j < bs.length := by have := (List.getElem?_eq_some_iff.1 hu).1; simpa using this
  simp only [List.getElem?_map, List.getElem?_toArray] at hu ⊢
  rw [← hu]
  congr 1
  unfold lendc
  rw [List.getElem?_append_left hj]
end
end Go.Proofs.Ytknpapcfhnhheaa

/- What calls write, what is read of it, what is read of a strict beginning of it. -/
set_option maxRecDepth 100000
set_option linter.unusedVariables false
namespace Go.Proofs.Ytknpapcfhnhheaa
open Go Go.RowKit Go.Gv

theorem RdR.upto {R : Nat → Prop} {N : Nat} {w : World} {ao : Option Addr} {n cap : Nat} {bs : List Int} (h : RdR R N w (.slice ao n cap) bs) (k : Nat) (hk : k ≤ bs.length) : RdR R N w (.slice ao k cap) (bs.take k) := by
  refine ⟨h.1.upto k hk, fun h0 g hg => h.2.1 (by simp at h0; omega) g (by cases ao <;> simp_all [Value.ownBlock]), by have := h.2.2; simp; omega⟩

/-- the state of a reader that has less than all of `full` ahead -/
def SP (s : RSt) (full : List Int) : Prop := s = none ∨ ∃ t, s = some t ∧ t <+: full ∧ t.length < full.length

theorem SP.nil {s : RSt} (h : SP s []) : s = none := by
  rcases h with h | ⟨t, _, _, h⟩
  · exact h
  · simp at h
theorem SP.cut {t a rest : List Int} (h1 : t <+: a ++ rest) (h2 : t.length < (a ++ rest).length) : (t <+: a ∧ t.length < a.length) ∨ ∃ t', t = a ++ t' ∧ SP (some t') rest := by
  rcases Nat.lt_or_ge t.length a.length with h | h
  · exact .inl ⟨List.prefix_of_prefix_length_le h1 (List.prefix_append a rest) (by omega), h⟩
  · obtain ⟨t', rfl⟩ := List.prefix_of_prefix_length_le (List.prefix_append a rest) h1 h
    refine .inr ⟨t', rfl, .inr ⟨t', rfl, (List.prefix_append_right_inj a).1 h1, by simpa using h2⟩⟩

theorem dec_pre : ∀ (m i acc : Nat) (t : List Int), t <+: encN m → t.length < (encN m).length → decGo i acc t = none := by
  intro m
  induction m using Nat.strongRecOn with
  | _ m ih =>
    intro i acc t h1 h2
    by_cases hm : m < 128
    · rw [encN_lt hm] at h2
      obtain rfl : t = [] := List.eq_nil_of_length_eq_zero (by simpa using h2)
      rfl
    · rw [encN_ge (by omega)] at h1 h2
      cases t with
      | nil => rfl
      | cons c t =>
        obtain ⟨rfl, h1'⟩ := List.cons_prefix_cons.1 h1
        simp only [decGo]
        split
        · rfl
        · rw [if_neg (by omega)]
          exact ih (m / 128) (by omega) _ _ t h1' (by simpa using h2)

theorem SP.num {s : RSt} {n : Nat} {rest : List Int} (hn : n < U64) (h : SP s (encN n ++ rest)) : SP (rNum s).2 rest ∧ ((rNum s).2.isSome → (rNum s).1 = n) := by
  rcases h with rfl | ⟨t, rfl, h1, h2⟩
  · exact ⟨.inl rfl, by simp⟩
  · rcases SP.cut h1 h2 with ⟨h3, h4⟩ | ⟨t', rfl, h5⟩
    · have := dec_pre n 0 0 t h3 h4
      simp [rNum, this, SP]
    · rw [rNum_enc hn]
      exact ⟨h5, fun _ => rfl⟩
theorem SP.int {s : RSt} {n : Nat} {rest : List Int} (most : Int) (hn : n < U64) (h : SP s (encN n ++ rest)) : SP (rInt most s).2 rest ∧ ((rInt most s).2.isSome → (rInt most s).1 = n) := by
  have := h.num hn
  unfold rInt
  split
  · exact ⟨.inl rfl, by simp⟩
  · exact this
theorem SP.take {s : RSt} {a rest : List Int} (h : SP s (a ++ rest)) : SP (rTake a.length s).2 rest := by
  rcases h with rfl | ⟨t, rfl, h1, h2⟩
  · exact .inl rfl
  · rcases SP.cut h1 h2 with ⟨h3, h4⟩ | ⟨t', rfl, h5⟩
    · simp [rTake, h4, SP]
    · rw [rTake_app rfl]; exact h5
theorem SP.row {s : RSt} {bs rest : List Int} (most : Int) (hb : bs.length < U64) (h : SP s (encN bs.length ++ bs ++ rest)) : SP (rRow most s).2 rest := by
  rw [List.append_assoc] at h
  have h1 := h.int most hb
  unfold rRow
  cases hs : (rInt most s).2 with
  | none => exact .inl rfl
  | some u =>
    rw [h1.2 (by simp [hs]), ← hs]
    exact h1.1.take
theorem SP.hash {s : RSt} {hh rest : List Int} (hl : hh.length = 32) (h : SP s (hh ++ rest)) : SP (rHash s).2 rest := by
  have h1 := h.take
  rw [hl] at h1
  unfold rHash
  generalize rTake 32 s = q at *
  rcases q with ⟨b, _ | x⟩
  · exact .inl rfl
  · exact h1

theorem rRow_encA {bs : List Int} (hb : bs.length < U64) (most : Int) (rest : List Int) : rRow most (some (encN bs.length ++ bs ++ rest)) = if most < bs.length then ([], none) else (bs, some rest) := by
  rw [List.append_assoc, rRow_enc hb]

/-- the bytes of a call -/
def actB (nm : Int) (row : Nat) (a : Act01) : List Int :=
  if within a.Do 4 = 0 then encN a.U else if within a.Do 4 = 1 then encN (within a.N nm).toNat else if within a.Do 4 = 2 then encN (a.B.take row).length ++ a.B.take row else a.H
section
variable {nm : Int} {row : Nat} {a : Act01}
theorem actB_0 (h : within a.Do 4 = 0) : actB nm row a = encN a.U := by simp [actB, h]
theorem actB_1 (h : within a.Do 4 = 1) : actB nm row a = encN (within a.N nm).toNat := by simp [actB, h]
theorem actB_2 (h : within a.Do 4 = 2) : actB nm row a = encN (a.B.take row).length ++ a.B.take row := by simp [actB, h]
theorem actB_3 (h : within a.Do 4 = 3) : actB nm row a = a.H := by simp [actB, h]
end
theorem within_nat (v n : Int) (hn : 1 ≤ n) : ∃ k : Nat, within v n = k ∧ (k : Int) < n := by
  have := within_range v n hn
  exact ⟨(within v n).toNat, by omega, by omega⟩
theorem flat_take_succ {α : Type} (f : α → List Int) (l : List α) (i : Nat) (h : i < l.length) : (l.take (i + 1)).flatMap f = (l.take i).flatMap f ++ f l[i] := by
  rw [List.take_succ_eq_append_getElem h, List.flatMap_append]
  simp
theorem flat_drop {α : Type} (f : α → List Int) (l : List α) (i : Nat) (h : i < l.length) : (l.drop i).flatMap f = f l[i] ++ (l.drop (i + 1)).flatMap f := by
  rw [List.drop_eq_getElem_cons h, List.flatMap_cons]
theorem flat_dropn {α : Type} (f : α → List Int) (l : List α) (n i : Nat) (h : i < l.length) (hn : i < n) : ((l.take n).drop i).flatMap f = f l[i] ++ ((l.take n).drop (i + 1)).flatMap f := by
  rw [flat_drop f (l.take n) i (by simp; omega)]
  simp
theorem rHash_l (s : RSt) : (rHash s).1.length = 32 := by
  unfold rHash
  cases s with
  | none => simp
  | some bs =>
    simp only [rTake]
    split
    · rename_i h; split at h <;> simp_all
    · rename_i h
      split at h
      · simp at h
      · simp only [Prod.mk.injEq] at h
        obtain ⟨rfl, _⟩ := h
        simp; omega
end Go.Proofs.Ytknpapcfhnhheaa

/- Slices of one-cell values (numbers, slices) that are appended to; an Act's fields in the slice itself. -/
set_option maxRecDepth 100000
set_option linter.unusedVariables false
namespace Go.Proofs.Ytknpapcfhnhheaa
open Go Go.RowKit Go.Gv

def OwV (e : TypeId) (R : Nat → Prop) (N : Nat) (w : World) (v : Value) (cs : List Value) : Prop := Own (fun u => u.oneCell' = true) e 1 w v cs.length cs ∧ (∀ g, v.ownBlock = some g → R g) ∧ cs.length ≤ N
section
variable {e : TypeId} {R R' S : Nat → Prop} {N M : Nat} {w w' : World} {v : Value} {cs : List Value}
theorem OwV.mod (h : OwV e R N w v cs) (hm : Mod S w w') (hs : ∀ k, R k → S k → False) : OwV e R N w' v cs := ⟨Own.mod h.1 hm (fun g hg hS => hs g (h.2.1 g hg) hS), h.2⟩
theorem OwV.widen (h : OwV e R N w v cs) (hs : ∀ k, R k → R' k) (hM : N ≤ M) : OwV e R' M w v cs := ⟨h.1, fun g hg => hs g (h.2.1 g hg), Nat.le_trans h.2.2 hM⟩
theorem OwV.nil (e : TypeId) (R : Nat → Prop) (w : World) : OwV e R 0 w (.slice none 0 0) [] := ⟨Own.nil _ _ _ _, (fun g hg => by cases hg), Nat.le_refl _⟩
theorem OwV.shape (h : OwV e R N w v cs) : ∃ ao cap, v = .slice ao cs.length cap := Own.shape h.1
theorem OwV.at {ao : Option Addr} {n cap : Nat} (h : OwV e R N w (.slice ao n cap) cs) {i : Nat} (hi : i < cs.length) :
    ∃ g, ao = some ⟨g, 0, none⟩ ∧ ∀ j u, cs[j]? = some u → w.cell? ⟨g, j, none⟩ = some u := by
  obtain ⟨hl, _, ⟨hv, hn⟩ | ⟨g, cap', cur, hv, hg, h1, h2, h3, h4, _⟩⟩ := h.1
  · omega
  · simp only [Value.slice.injEq] at hv
    refine ⟨g, hv.1, fun j u hu => ?_⟩
    rw [hg.cell]
    have hj : j < cs.length := (List.getElem?_eq_some_iff.1 hu).1
    rw [← h4, List.getElem?_take, if_pos (by omega)] at hu
    simpa using hu
end
theorem Rd_one (w : World) (u : Value) (e : TypeId) : Rd 1 (w.alloc (.cells #[u] e)) (.slice (some ⟨w.heap.size, 0, none⟩) 1 1) 1 [u] :=
  Rd.mk (Nat.le_refl _) (by rw [maxLen_val]; omega) rfl fun j y hy => by rw [Nat.zero_add, (Cs.new w #[u] e).cell]; simpa using hy

/-- s = append(s, u): u built into a block of its own -/
theorem wpList_appV1 {w : World} {e' : TypeId} {u : Value} {ops : Array Oper} {rest : List Oper} {o : Oper} {a : Act} {Q : Exit → Act → World → Prop} (hgd : o.guard = none) (s x : Operand) (t e : TypeId) (z : Value) (bytes : Nat)
    (ho : o.op = .call { callee := .builtin .append, args := #[s, x], argTypes := #[t, t] }) (ht : Try.prog.underlying t = some (.slice e))
    (hinfo : (Try.prog.info? e).map (fun i => (i.zero, i.size, i.bytes)) = some (some z, 1, bytes)) (hz : z.cells = #[z]) (hz1 : z.oneCell' = true)
    {R : Nat → Prop} {N : Nat} {v : Value} {cs : List Value} (hs : a.eval s = v) (hown : OwV e R N w v cs) (hx : a.eval x = .slice (some ⟨w.heap.size, 0, none⟩) 1 1) (hu : u.oneCell' = true)
    (hroom : (N + 1) * bytes ≤ 140737488355328) (hN : N ≤ 1000000)
    (h : ∀ ao cap w', OwV e (fun k => R k ∨ New w w' k) (N + 1) w' (.slice ao (cs.length + 1) cap) (cs ++ [u]) → Mod R w w' → wpList Try.prog ops Q rest (a.put o.dst (.slice ao (cs.length + 1) cap)) w') :
    wpList Try.prog ops Q (o :: rest) a (w.alloc (.cells #[u] e')) := by
  obtain ⟨i0, hi, hz0, hz1', hz2⟩ := info_parts hinfo
  refine wpList_append hgd s x t ho e i0 z 1 bytes ht hi hz0 hz1' hz2 (by rw [hz]; rfl) (by decide) (by intro y hy; rw [hz] at hy; simp at hy; subst hy; exact hz1) v _ _ hs (Own.alloc hown.1 _) _ 1 [u] hx (Rd_one w u e') (by simpa using hu) (by simpa using hu) ?_ ?_ ?_
  · have := Nat.mul_le_mul_right bytes (show cs.length + 1 ≤ N + 1 by have := hown.2.2; omega); omega
  · have := hown.2.2; rw [maxLen_val]; omega
  · intro ao cap w' ⟨h1, h2, h3⟩
    have hsz : (w.alloc (.cells #[u] e')).heap.size = w.heap.size + 1 := by simp
    have hm : Mod R w w' := ((Mod.refl R w).alloc _).trans (h2.mono (S' := R) (fun k _ hk => hown.2.1 k hk.symm)) (fun _ _ h => h)
    refine h ao cap w' ⟨by rw [List.length_append]; exact h1, ?_, by have := hown.2.2; simp; omega⟩ hm
    intro g hg
    rcases h3 with h3 | ⟨k, h3, hk⟩
    · exact .inl (hown.2.1 g (h3 ▸ hg))
    · rw [h3] at hg
      obtain rfl : k = g := by simpa using hg
      exact .inr ⟨by omega, Own.lt h1 h3⟩
theorem info_int : (Try.prog.info? 3).map (fun i => (i.zero, i.size, i.bytes)) = some (some (.int .i64 0), 1, 8) := by kernel_rfl

section
variable {R : Nat → Prop} {w : World} {g o n cap i : Nat} {l : List Act01} {a : Act01}
theorem RdA_f (h : RdA R w (.slice (some ⟨g, o, none⟩) n cap) l) (hi : i < l.length) (e : l[i] = a) : ∀ j u, a.cells[j]? = some u → w.cell? ⟨g, o + i * 36 + j, none⟩ = some u := by
  obtain ⟨g', o', e', hc⟩ := h.at hi
  simp only [Option.some.injEq, Addr.mk.injEq, and_true] at e'
  obtain ⟨rfl, rfl⟩ := e'
  subst e
  exact hc
theorem RdA_0 (h : RdA R w (.slice (some ⟨g, o, none⟩) n cap) l) (hi : i < l.length) (e : l[i] = a) : w.cell? ⟨g, o + i * 36, none⟩ = some (.int .i64 a.Do) := by simpa using RdA_f h hi e 0 _ rfl
theorem RdA_1 (h : RdA R w (.slice (some ⟨g, o, none⟩) n cap) l) (hi : i < l.length) (e : l[i] = a) : w.cell? ⟨g, o + i * 36 + 1, none⟩ = some (.int .i64 a.N) := RdA_f h hi e 1 _ rfl
theorem RdA_2 (h : RdA R w (.slice (some ⟨g, o, none⟩) n cap) l) (hi : i < l.length) (e : l[i] = a) : w.cell? ⟨g, o + i * 36 + 2, none⟩ = some (.int .u64 a.U) := RdA_f h hi e 2 _ rfl
theorem RdA_3 (h : RdA R w (.slice (some ⟨g, o, none⟩) n cap) l) (hi : i < l.length) (e : l[i] = a) : w.cell? ⟨g, o + i * 36 + 3, none⟩ = some a.VB := RdA_f h hi e 3 _ rfl
theorem RdA_4 (h : RdA R w (.slice (some ⟨g, o, none⟩) n cap) l) (hi : i < l.length) (e : l[i] = a) (hl : a.H.length = 32) (j : Nat) (u : Value) (hu : (a.H.map bv)[j]? = some u) : w.cell? ⟨g, o + i * 36 + 4 + j, none⟩ = some u := by
  have h2 : a.cells[j + 4]? = some u := by rw [← hu, ← Act01.tail_eq hl]; rfl
  have := RdA_f h hi e (j + 4) u h2
  rwa [show o + i * 36 + (j + 4) = o + i * 36 + 4 + j by omega] at this
end
end Go.Proofs.Ytknpapcfhnhheaa

/- How long a number is; a number that is written longer; a text whose last byte is turned. -/
set_option maxRecDepth 100000
set_option linter.unusedVariables false
namespace Go.Proofs.Ytknpapcfhnhheaa
open Go Go.RowKit Go.Gv

theorem encN_len_step (m : Nat) : (encN m).length = 1 + (if m / 128 = 0 then 0 else (encN (m / 128)).length) := by
  by_cases h : m < 128
  · rw [encN_lt h, if_pos (by omega)]; rfl
  · rw [encN_ge (by omega), if_neg (by omega), List.length_cons, Nat.add_comm]
theorem encN_last : ∀ m : Nat, ∃ (ini : List Int) (d : Int), encN m = ini ++ [d] ∧ 0 ≤ d ∧ d < 128 ∧ (∀ i acc, decGo i acc (ini ++ [d + 128] ++ [0]) = none) := by
  intro m
  induction m using Nat.strongRecOn with
  | _ m ih =>
    by_cases h : m < 128
    · refine ⟨[], m, by rw [encN_lt h]; rfl, by omega, by omega, fun i acc => ?_⟩
      simp only [List.nil_append, List.cons_append, decGo]
      split
      · rfl
      · rw [if_neg (by omega)]
        split
        · rfl
        · rw [if_pos (by omega), if_pos (by simp)]
    · obtain ⟨ini, d, h1, h2, h3, h4⟩ := ih (m / 128) (by omega)
      refine ⟨((m : Int) % 128 + 128) :: ini, d, by rw [encN_ge (by omega), h1]; rfl, h2, h3, fun i acc => ?_⟩
      simp only [List.cons_append, decGo]
      split
      · rfl
      · rw [if_neg (by omega)]
        exact h4 _ _
theorem rInt_below {most : Int} (s : RSt) (h : most < 0) : rInt most s = (0, none) := by unfold rInt; rw [if_pos (.inr (.inl h))]
theorem dec_255 : decGo 0 0 [255, 255, 255, 255, 255, 255, 255, 255, 255, 2] = none := by decide
theorem or128b {d : Int} (h0 : 0 ≤ d) (h1 : d < 128) : bits .or .u8 d 128 = d + 128 := by
  rw [u8_or d 128 h0 (by omega) (by omega) (by omega)]
  have e : ∀ x, x < 128 → x ||| 128 = x + 128 := by decide
  have := e d.toNat (by omega)
  simp [this]
  omega
theorem OwR.last {R : Nat → Prop} {N : Nat} {w : World} {v : Value} {ini : List Int} {d : Int} (h : OwR R N w v (ini ++ [d])) :
    ∃ g cap, v = .slice (some ⟨g, 0, none⟩) (ini.length + 1) cap ∧ R g ∧ g < w.heap.size ∧ w.cell? ⟨g, ini.length, none⟩ = some (bv d) ∧ w.frozen? ⟨g, ini.length, none⟩ = false ∧
      ∀ y : Int, 0 ≤ y → y < 256 → OwR R N (w.setCell ⟨g, ini.length, none⟩ (bv y)) v (ini ++ [y]) := by
  obtain ⟨h1, h2, h3⟩ := h
  have hby := h1.bytes
  obtain ⟨hl, hE, ⟨rfl, hn⟩ | ⟨g, cap, cur, rfl, hc, q1, q2, q3, q4, q5⟩⟩ := h1
  · simp at hn
  · have q3' : cap ≤ cur.size := by omega
    have hlen : (ini ++ [d]).length = ini.length + 1 := by simp
    rw [hlen] at q1 q4 hl
    refine ⟨g, cap, by rw [hlen], h2 g rfl, hc.lt, ?_, hc.frozen _, fun y h0 hy => ⟨?_, h2, by simpa using h3⟩⟩
    · rw [hc.cell]
      have : cur.toList[ini.length]? = some (bv d) := by
        have e : (cur.toList.take ((ini.length + 1) * 1))[ini.length]? = ((ini ++ [d]).map bv)[ini.length]? := by rw [q4]
        rw [List.getElem?_take, if_pos (by omega)] at e
        rw [e]; simp
      simpa using this
    · refine ⟨by simp, ?_, .inr ⟨g, cap, cur.setIfInBounds ini.length (bv y), by simp, hc.set ini.length (bv y), by simpa using q1, q2, by simpa using q3, ?_, ?_⟩⟩
      · refine isB_all ?_
        intro x hx
        rcases List.mem_append.1 hx with h | h
        · exact hby x (List.mem_append_left _ h)
        · simp at h; subst h; exact ⟨h0, hy⟩
      · rw [Array.toList_setIfInBounds]
        have e2 : (ini ++ [y]).length * 1 = (ini.length + 1) * 1 := by simp
        rw [e2, List.take_set, q4, List.map_append, List.map_append]
        rw [List.set_append_right _ _ (by simp)]
        simp
      · intro u hu
        rw [Array.toList_setIfInBounds] at hu
        rcases List.mem_or_eq_of_mem_set hu with h | h
        · exact q5 u h
        · exact ⟨y, h, h0, hy⟩

/-- s = append(s, x): one byte, built into a block of its own -/
theorem wpList_appR1 {w : World} {e' : TypeId} {y : Int} {ops : Array Oper} {rest : List Oper} {o : Oper} {a : Act} {Q : Exit → Act → World → Prop} (hgd : o.guard = none) (s x : Operand)
    (ho : o.op = .call { callee := .builtin .append, args := #[s, x], argTypes := #[38, 38] })
    {R : Nat → Prop} {N : Nat} {v : Value} {bs : List Int} (hs : a.eval s = v) (hown : OwR R N w v bs) (hx : a.eval x = .slice (some ⟨w.heap.size, 0, none⟩) 1 1) (h0 : 0 ≤ y) (h1 : y < 256)
    (hroom : N + 1 ≤ 1000000)
    (h : ∀ ao cap w', OwR (fun k => R k ∨ New w w' k) (N + 1) w' (.slice ao (bs.length + 1) cap) (bs ++ [y]) → Mod R w w' → wpList Try.prog ops Q rest (a.put o.dst (.slice ao (bs.length + 1) cap)) w') :
    wpList Try.prog ops Q (o :: rest) a (w.alloc (.cells #[bv y] e')) := by
  have hsz : (w.alloc (.cells #[bv y] e')).heap.size = w.heap.size + 1 := by simp
  refine wpList_appR hgd s x ho hs (hown.mod (S := fun _ => False) ((Mod.refl _ _).alloc _) (fun _ _ h => h)) (xv := .slice (some ⟨w.heap.size, 0, none⟩) 1 1) (new := [y]) (R' := fun _ => True) (M := 1) hx ⟨RdB_one w h0 h1 e', fun _ _ _ => trivial, Nat.le_refl _⟩ hroom ?_
  intro ao cap w' hq hm
  refine h ao cap w' (hq.widen (fun k hk => ?_) (Nat.le_refl _)) (((Mod.refl R w).alloc _).trans hm (fun _ _ h => h))
  rcases hk with hk | hk
  · exact .inl hk
  · unfold New at hk ⊢; exact .inr ⟨by omega, hk.2⟩
theorem RdR_new (w : World) (bs : List Int) (hb : Bytes bs) (hl : bs.length ≤ 1000000) (e : TypeId) :
    ∃ w', w.alloc (.cells (bs.map bv).toArray e) = w' ∧ RdR (New w w') bs.length w' (.slice (some ⟨w.heap.size, 0, none⟩) bs.length bs.length) bs ∧ Mod (fun _ => False) w w' := by
  have hc := Cs.new w (bs.map bv).toArray e
  refine ⟨_, rfl, ⟨⟨hb, Rd.mk (Nat.le_refl _) (by rw [maxLen_val]; omega) (by simp) fun j u hu => by rw [Nat.zero_add, hc.cell]; simpa using hu⟩, fun _ g hg => ?_, Nat.le_refl _⟩, (Mod.refl _ _).alloc _⟩
  simp [Value.ownBlock] at hg
  subst hg
  exact ⟨Nat.le_refl _, hc.lt⟩
end Go.Proofs.Ytknpapcfhnhheaa

/- sha.Sum. -/
set_option maxRecDepth 100000
set_option linter.unusedVariables false
namespace Go.Proofs.Ytknpapcfhnhheaa
open Go Go.RowKit Go.Gv

def padZ (n : Nat) : Nat := (119 - n % 64) % 64
def padded (bs : List Int) (j : Nat) : List Int := bs ++ [128] ++ List.replicate j 0
def lenB (n i : Nat) : Int := ((n : Int) * 8) / 2 ^ (56 - 8 * i) % 256
def fullTo (bs : List Int) (i : Nat) : List Int := padded bs (padZ bs.length) ++ (List.range i).map (lenB bs.length)
def fullB (bs : List Int) : List Int := fullTo bs 8
def blocksTo (fb : List Int) (t : Nat) : List Int := (List.range t).foldl (fun h j => mixF h K256 (fb.drop (64 * j))) H256
def outB (h : List Int) (q : Nat) : Int := (h.getD (q / 4) 0) / 2 ^ (24 - 8 * (q % 4)) % 256
def shaF (bs : List Int) : List Int := (List.range 32).map (outB (blocksTo (fullB bs) ((fullB bs).length / 64)))
theorem padded_len (bs : List Int) (j : Nat) : (padded bs j).length = bs.length + 1 + j := by simp [padded]; omega
theorem padded_succ (bs : List Int) (j : Nat) : padded bs j ++ [0] = padded bs (j + 1) := by
  unfold padded
  rw [List.append_assoc, List.replicate_succ']
theorem pad_iff {n j : Nat} (h : j ≤ padZ n) : (n + 1 + j) % 64 = 56 ↔ j = padZ n := by unfold padZ at *; omega
theorem fullTo_len (bs : List Int) (i : Nat) : (fullTo bs i).length = bs.length + 1 + padZ bs.length + i := by unfold fullTo; rw [List.length_append, padded_len]; simp
theorem fullTo_succ (bs : List Int) (i : Nat) : fullTo bs i ++ [lenB bs.length i] = fullTo bs (i + 1) := by
  unfold fullTo
  rw [List.append_assoc, List.range_succ, List.map_append]
  rfl
theorem full_div (bs : List Int) : (fullB bs).length % 64 = 0 := by unfold fullB; rw [fullTo_len]; unfold padZ; omega
theorem lenB_byte (n i : Nat) : 0 ≤ lenB n i ∧ lenB n i < 256 := by unfold lenB; omega
theorem blocks_succ (fb : List Int) (t : Nat) : blocksTo fb (t + 1) = mixF (blocksTo fb t) K256 (fb.drop (64 * t)) := by unfold blocksTo; rw [List.range_succ, List.foldl_append]; rfl
theorem mixF_len (h k b : List Int) (hl : h.length = 8) : (mixF h k b).length = 8 := by unfold mixF; rw [addTo_len, hl]
theorem blocks_len (fb : List Int) (t : Nat) : (blocksTo fb t).length = 8 := by
  induction t with
  | zero => rfl
  | succ t ih => rw [blocks_succ, mixF_len _ _ _ ih]
theorem shaF_len (bs : List Int) : (shaF bs).length = 32 := by simp [shaF]
theorem outB_byte (h : List Int) (q : Nat) : 0 ≤ outB h q ∧ outB h q < 256 := by unfold outB; omega
theorem shaF_bytes (bs : List Int) : Bytes (shaF bs) := by
  intro x hx
  obtain ⟨q, _, rfl⟩ := List.mem_map.1 hx
  exact outB_byte _ _

theorem Cs_new1 (w : World) (o : Obj) (c : Array Value) (e : TypeId) : Cs ((w.alloc o).alloc (.cells c e)) (w.heap.size + 1) c e := by
  have := Cs.new (w.alloc o) c e
  rwa [show (w.alloc o).heap.size = w.heap.size + 1 by simp] at this
def lenOf : Value → Nat
  | .slice _ n _ => n
  | _ => 0
def outTo (h : List Int) (q : Nat) : List Int := (List.range q).map (outB h) ++ List.replicate (32 - q) 0
theorem outTo_len (h : List Int) (q : Nat) (hq : q ≤ 32) : (outTo h q).length = 32 := by simp [outTo]; omega
theorem outTo_succ (h : List Int) (q : Nat) (hq : q < 32) : (outTo h q).set q (outB h q) = outTo h (q + 1) := by
  unfold outTo
  rw [List.set_append_right _ _ (by simp), List.length_map, List.length_range, Nat.sub_self, List.range_succ, List.map_append, List.append_assoc]
  congr 1
  obtain ⟨k, hk⟩ : ∃ k, 32 - q = k + 1 := ⟨31 - q, by omega⟩
  rw [hk, show 32 - (q + 1) = k by omega, List.replicate_succ]
  rfl
theorem outB_at (h : List Int) (i j : Nat) (hj : j < 4) : outB h (4 * i + j) = (h.getD i 0) / 2 ^ (24 - 8 * j) % 256 := by
  unfold outB
  rw [show (4 * i + j) / 4 = i by omega, show (4 * i + j) % 4 = j by omega]
theorem Cs_setB {w : World} {g : Nat} {bs : List Int} {e : TypeId} (h : Cs w g (bs.map bv).toArray e) (j : Nat) (x : Int) : Cs (w.setCell ⟨g, j, none⟩ (bv x)) g ((bs.set j x).map bv).toArray e := by
  have := h.set j (bv x)
  simpa [List.map_set] using this
structure SumO (w0 : World) (h : List Int) (w : World) : Prop where
  k2 : Cs w w0.heap.size ((List.replicate 32 0).map bv).toArray 25
  k3 : Ws 170 w (w0.heap.size + 1) h
  m : Mod (fun _ => False) w0 w
theorem SumO.mod {S : Nat → Prop} {w0 w w' : World} {h : List Int} (o : SumO w0 h w) (hm : Mod S w w') (hS : ∀ k, S k → w0.heap.size + 2 ≤ k) : SumO w0 h w' :=
  ⟨o.k2.mod hm (fun q => by have := hS _ q; omega), o.k3.mod hm (fun q => by have := hS _ q; omega), o.m.trans hm (fun k hk q => by have := hS _ q; omega)⟩
theorem SumO.put {w0 w w' : World} {h h' : List Int} (o : SumO w0 h w) (hm : Mod (fun k => k = w0.heap.size + 1) w w') (hs : Ws 170 w' (w0.heap.size + 1) h') : SumO w0 h' w' :=
  ⟨o.k2.mod hm (by omega), hs, o.m.trans hm (fun k hk q => by omega)⟩
/-- the padded bytes, in blocks of their own -/
def FulO (w0 : World) (w : World) (v : Value) (bs : List Int) : Prop := OwR (fun k => w0.heap.size + 2 ≤ k) bs.length w v bs
theorem FulO.mod {S : Nat → Prop} {w0 w w' : World} {v : Value} {bs : List Int} (o : FulO w0 w v bs) (hm : Mod S w w') (hS : ∀ k, S k → k < w0.heap.size + 2) : FulO w0 w' v bs := OwR.mod o hm (fun k h1 h2 => by have := hS k h2; omega)

set_option maxHeartbeats 4000000 in
theorem Sum_any (v : Value) (bs : List Int) (w : World) (h : RdB w v bs) (hlen : bs.length ≤ 900000) :
    Calls Try.prog 96 #[v] w fun e w' => e = .returned (hv (shaF bs)) ∧ Mod (fun _ => False) w w' := by
  have hbl := h.block_lt
  have HR := Lib.hid (show RdR (fun k => k < w.heap.size) bs.length w v bs from ⟨h, hbl, Nat.le_refl _⟩)
  obtain ⟨ao, cap, rfl, -, -⟩ := h.shape
  clear h hbl
  go_enter Try.func96, Try.ntmps96
  go_wp2_with ((with_reducible show wpList _ _ _ (Oper.mk none (Op.store 170 (.tmp 3) (.tmp 12)) _ _ _ _ :: _) _ _); go_must (refine wpList_storeA rfl 170 (.tmp 3) (.tmp 12) rfl (Cs_new1 _ _ _ _) (off := 0) (vs := H256.map wv) size_a8 (wv_one _) (by decide) rfl rfl ?_))
  intro w1 hc1 hm1
  rw [lay_whole _ _ (by decide)] at hc1
  have hO : SumO w H256 w1 := by
    refine ⟨?_, ?_, (((Mod.refl _ _).alloc _).alloc _).trans hm1 (by intro k h1 h2; (try dsimp only at h2); omega)⟩
    · refine Cs.mod (((Cs.new w _ _).alloc _)) hm1 (by simp)
    · exact hc1
  have KO := Lib.hid hO
  have z1 : w.heap.size + 2 ≤ w1.heap.size := by have := hO.k3.lt; omega
  clear hO hc1 hm1
  have HR1 := Lib.hid (HR.out.mod KO.out.m (fun _ _ h => h))
  go_wp2_with (at_builtin; go_must (refine wpList_appR rfl (.const (.slice none 0 0)) (.tmp 13) rfl rfl (R := fun k => w.heap.size + 2 ≤ k) (N := 0) (bs := []) ⟨OwnB.nil _, (fun g hg => by cases hg), Nat.le_refl _⟩ rfl HR1.out (by omega) ?_))
  intro ao2 cap2 w2 hq2 hm2
  have KO2 := Lib.hid (KO.out.mod hm2 (fun k hk => hk))
  have z2 := hm2.size
  have HQ2 := Lib.hid (show FulO w w2 (.slice ao2 bs.length cap2) bs from ⟨hq2.1, fun g hg => by have := hq2.2.1 g hg; unfold New at this; omega, Nat.le_refl _⟩)
  clear hq2 hm2 KO HR1
  go_wp2_with (at_builtin; go_must (refine wpList_appR1 rfl (.tmp 14) (.tmp 15) rfl rfl HQ2.out rfl (by omega) (by omega) (by omega) ?_))
  intro ao3 cap3 w3 hq3 hm3
  have KO3 := Lib.hid (KO2.out.mod hm3 (fun k hk => hk))
  have z3 := hm3.size
  have HQ3 := Lib.hid (show FulO w w3 (.slice ao3 (bs.length + 1) cap3) (padded bs 0) from ⟨by have := hq3.1; simpa [padded] using this, fun g hg => by have := hq3.2.1 g hg; unfold New at this; omega, by rw [padded_len]; omega⟩)
  clear hq3 hm3 KO2 HQ2
  have hz : padZ bs.length ≤ 63 := by unfold padZ; omega
  go_wp2
  go_loopw [4] (fun t4 wr => ∃ (j : Nat) (ao : Option Addr) (cap : Nat), t4 = .slice ao (bs.length + 1 + j) cap ∧ j ≤ padZ bs.length ∧ FulO w wr (.slice ao (bs.length + 1 + j) cap) (padded bs j) ∧ SumO w H256 wr) (fun t4 _ => bs.length + 1 + padZ bs.length - lenOf t4)
  case atStart => exact ⟨0, ao3, cap3, rfl, by omega, HQ3.out, KO3.out⟩
  case round =>
    obtain ⟨j, ao4, cap4, rfl, hj, hF, hO⟩ := hrel
    have hiff := pad_iff hj
    have KF := Lib.hid hF
    have KO := Lib.hid hO
    have zr := hO.k3.lt
    clear hF hO HQ3 KO3
    obtain ⟨n, hn⟩ : ∃ n, n = bs.length + 1 + j := ⟨_, rfl⟩
    rw [← hn] at KF hiff
    rw [← hn]
    have HN := Lib.hid hn
    have hnb : n ≤ 950000 := by omega
    clear hn
    by_cases hlt : j < padZ bs.length
    · have h56 : ¬ ((n : Int) % 64 = 56) := by omega
      clear hiff
      go_wp2_with (at_builtin; go_must (refine wpList_appR1 rfl (.tmp 21) (.tmp 22) rfl rfl KF.out rfl (by omega) (by omega) (by rw [padded_len]; omega) ?_))
      intro ao5 cap5 w5 hq5 hm5
      have KO5 := Lib.hid (KO.out.mod hm5 (fun k hk => hk))
      have z5 := hm5.size
      rw [padded_succ] at hq5
      have hl5 : (padded bs j).length = n := by rw [padded_len, HN.out]
      rw [hl5] at hq5 ⊢
      have hl6 := padded_len bs (j + 1)
      have HQ5 := Lib.hid (show FulO w w5 (.slice ao5 (n + 1) cap5) (padded bs (j + 1)) from ⟨hq5.1, fun g hg => by have := hq5.2.1 g hg; unfold New at this; omega, Nat.le_refl _⟩)
      clear hq5 hm5 hl5 hl6
      go_wp2
      go_roundw
      case rel => exact ⟨j + 1, ao5, cap5, by rw [HN.out, ← Nat.add_assoc], by omega, by have := HQ5.out; rw [HN.out, Nat.add_assoc] at this; exact this, KO5.out⟩
      case measure => have := HN.out; simp [lenOf]; omega
    · obtain rfl : j = padZ bs.length := by omega
      have h56 : (n : Int) % 64 = 56 := by omega
      have hl4 : (padded bs (padZ bs.length)).length = n := by rw [padded_len, HN.out]
      clear hiff
      go_wp2
      obtain ⟨x, hx⟩ : ∃ x : Int, x = (bs.length : Int) * 8 := ⟨_, rfl⟩
      rw [← hx]
      have HX := Lib.hid hx
      have HL4 := Lib.hid hl4
      clear hx hl4 h56
      have hfz : FulO w wr (.slice ao4 n cap4) (fullTo bs 0) := by have := KF.out; rw [show fullTo bs 0 = padded bs (padZ bs.length) by simp [fullTo]]; exact this
      have HF0 := Lib.hid hfz
      clear hfz KF
      go_loopw [4, 28] (fun t4 t28 wr => ∃ (i : Nat) (ao : Option Addr) (cap : Nat), t28 = .int .i64 i ∧ i ≤ 8 ∧ t4 = .slice ao (n + i) cap ∧ FulO w wr (.slice ao (n + i) cap) (fullTo bs i) ∧ SumO w H256 wr) (fun _ t28 _ => 8 - (intOf t28).toNat)
      case atStart => exact ⟨0, ao4, cap4, rfl, by omega, rfl, HF0.out, KO.out⟩
      case round =>
        obtain ⟨wi, rfl⟩ : ∃ x, x = wr := ⟨_, rfl⟩
        obtain ⟨i, ao6, cap6, rfl, hi, rfl, hF, hO⟩ := hrel
        clear KO HF0
        have KF := Lib.hid hF
        have KO := Lib.hid hO
        have zr2 := hO.k3.lt
        clear hF hO
        have hfl := fullTo_len bs i
        have hfl2 : (fullTo bs i).length = n + i := by rw [hfl, HN.out]
        have HFL := Lib.hid hfl2
        clear hfl hfl2
        by_cases hlt2 : i < 8
        · have hlb := lenB_byte bs.length i
          have hlv : lenB bs.length i = x / 2 ^ (56 - 8 * i) % 256 := by rw [HX.out]; rfl
          obtain ⟨y, hy⟩ : ∃ y, y = lenB bs.length i := ⟨_, rfl⟩
          rw [← hy] at hlb hlv
          have HY := Lib.hid hy
          have HV := Lib.hid hlv
          clear hy hlv
          have HI := Lib.hid (show i < 8 from hlt2)
          match i, hlt2 with
          | 0, _ =>
            have hv : y = x / 72057594037927936 % 256 := by rw [HV.out]; simp
            have HVV := Lib.hid hv
            rw [hv] at hlb
            clear hv
            go_wp2_with (at_builtin; go_must (refine wpList_appR1 rfl (.tmp 31) (.tmp 38) rfl rfl KF.out rfl hlb.1 hlb.2 (by rw [HFL.out]; omega) ?_))
            intro ao7 cap7 w7 hq7 hm7
            have KO7 := Lib.hid (KO.out.mod hm7 (fun k hk => hk))
            have z7 := hm7.size
            rw [← HVV.out, HY.out, fullTo_succ, HFL.out] at hq7
            rw [HFL.out]
            have hl7 := fullTo_len bs (0 + 1)
            have hl8 := HN.out
            have HQ7 := Lib.hid (show FulO w w7 (.slice ao7 (n + 0 + 1) cap7) (fullTo bs (0 + 1)) from ⟨hq7.1, fun g hg => by have := hq7.2.1 g hg; unfold New at this; omega, Nat.le_refl _⟩)
            clear hq7 hm7 hl7 hl8 hlb
            go_wp2
            go_roundw
            case rel => exact ⟨0 + 1, ao7, cap7, by go_num, by omega, rfl, HQ7.out, KO7.out⟩
            case measure => first | (simp [intOf]; done) | (simp [intOf]; omega)
          | 1, _ =>
            have hv : y = x / 281474976710656 % 256 := by rw [HV.out]; simp
            have HVV := Lib.hid hv
            rw [hv] at hlb
            clear hv
            go_wp2_with (at_builtin; go_must (refine wpList_appR1 rfl (.tmp 31) (.tmp 38) rfl rfl KF.out rfl hlb.1 hlb.2 (by rw [HFL.out]; omega) ?_))
            intro ao7 cap7 w7 hq7 hm7
            have KO7 := Lib.hid (KO.out.mod hm7 (fun k hk => hk))
            have z7 := hm7.size
            rw [← HVV.out, HY.out, fullTo_succ, HFL.out] at hq7
            rw [HFL.out]
            have hl7 := fullTo_len bs (1 + 1)
            have hl8 := HN.out
            have HQ7 := Lib.hid (show FulO w w7 (.slice ao7 (n + 1 + 1) cap7) (fullTo bs (1 + 1)) from ⟨hq7.1, fun g hg => by have := hq7.2.1 g hg; unfold New at this; omega, Nat.le_refl _⟩)
            clear hq7 hm7 hl7 hl8 hlb
            go_wp2
            go_roundw
            case rel => exact ⟨1 + 1, ao7, cap7, by go_num, by omega, rfl, HQ7.out, KO7.out⟩
            case measure => first | (simp [intOf]; done) | (simp [intOf]; omega)
          | 2, _ =>
            have hv : y = x / 1099511627776 % 256 := by rw [HV.out]; simp
            have HVV := Lib.hid hv
            rw [hv] at hlb
            clear hv
            go_wp2_with (at_builtin; go_must (refine wpList_appR1 rfl (.tmp 31) (.tmp 38) rfl rfl KF.out rfl hlb.1 hlb.2 (by rw [HFL.out]; omega) ?_))
            intro ao7 cap7 w7 hq7 hm7
            have KO7 := Lib.hid (KO.out.mod hm7 (fun k hk => hk))
            have z7 := hm7.size
            rw [← HVV.out, HY.out, fullTo_succ, HFL.out] at hq7
            rw [HFL.out]
            have hl7 := fullTo_len bs (2 + 1)
            have hl8 := HN.out
            have HQ7 := Lib.hid (show FulO w w7 (.slice ao7 (n + 2 + 1) cap7) (fullTo bs (2 + 1)) from ⟨hq7.1, fun g hg => by have := hq7.2.1 g hg; unfold New at this; omega, Nat.le_refl _⟩)
            clear hq7 hm7 hl7 hl8 hlb
            go_wp2
            go_roundw
            case rel => exact ⟨2 + 1, ao7, cap7, by go_num, by omega, rfl, HQ7.out, KO7.out⟩
            case measure => first | (simp [intOf]; done) | (simp [intOf]; omega)
          | 3, _ =>
            have hv : y = x / 4294967296 % 256 := by rw [HV.out]; simp
            have HVV := Lib.hid hv
            rw [hv] at hlb
            clear hv
            go_wp2_with (at_builtin; go_must (refine wpList_appR1 rfl (.tmp 31) (.tmp 38) rfl rfl KF.out rfl hlb.1 hlb.2 (by rw [HFL.out]; omega) ?_))
            intro ao7 cap7 w7 hq7 hm7
            have KO7 := Lib.hid (KO.out.mod hm7 (fun k hk => hk))
            have z7 := hm7.size
            rw [← HVV.out, HY.out, fullTo_succ, HFL.out] at hq7
            rw [HFL.out]
            have hl7 := fullTo_len bs (3 + 1)
            have hl8 := HN.out
            have HQ7 := Lib.hid (show FulO w w7 (.slice ao7 (n + 3 + 1) cap7) (fullTo bs (3 + 1)) from ⟨hq7.1, fun g hg => by have := hq7.2.1 g hg; unfold New at this; omega, Nat.le_refl _⟩)
            clear hq7 hm7 hl7 hl8 hlb
            go_wp2
            go_roundw
            case rel => exact ⟨3 + 1, ao7, cap7, by go_num, by omega, rfl, HQ7.out, KO7.out⟩
            case measure => first | (simp [intOf]; done) | (simp [intOf]; omega)
          | 4, _ =>
            have hv : y = x / 16777216 % 256 := by rw [HV.out]; simp
            have HVV := Lib.hid hv
            rw [hv] at hlb
            clear hv
            go_wp2_with (at_builtin; go_must (refine wpList_appR1 rfl (.tmp 31) (.tmp 38) rfl rfl KF.out rfl hlb.1 hlb.2 (by rw [HFL.out]; omega) ?_))
            intro ao7 cap7 w7 hq7 hm7
            have KO7 := Lib.hid (KO.out.mod hm7 (fun k hk => hk))
            have z7 := hm7.size
            rw [← HVV.out, HY.out, fullTo_succ, HFL.out] at hq7
            rw [HFL.out]
            have hl7 := fullTo_len bs (4 + 1)
            have hl8 := HN.out
            have HQ7 := Lib.hid (show FulO w w7 (.slice ao7 (n + 4 + 1) cap7) (fullTo bs (4 + 1)) from ⟨hq7.1, fun g hg => by have := hq7.2.1 g hg; unfold New at this; omega, Nat.le_refl _⟩)
            clear hq7 hm7 hl7 hl8 hlb
            go_wp2
            go_roundw
            case rel => exact ⟨4 + 1, ao7, cap7, by go_num, by omega, rfl, HQ7.out, KO7.out⟩
            case measure => first | (simp [intOf]; done) | (simp [intOf]; omega)
          | 5, _ =>
            have hv : y = x / 65536 % 256 := by rw [HV.out]; simp
            have HVV := Lib.hid hv
            rw [hv] at hlb
            clear hv
            go_wp2_with (at_builtin; go_must (refine wpList_appR1 rfl (.tmp 31) (.tmp 38) rfl rfl KF.out rfl hlb.1 hlb.2 (by rw [HFL.out]; omega) ?_))
            intro ao7 cap7 w7 hq7 hm7
            have KO7 := Lib.hid (KO.out.mod hm7 (fun k hk => hk))
            have z7 := hm7.size
            rw [← HVV.out, HY.out, fullTo_succ, HFL.out] at hq7
            rw [HFL.out]
            have hl7 := fullTo_len bs (5 + 1)
            have hl8 := HN.out
            have HQ7 := Lib.hid (show FulO w w7 (.slice ao7 (n + 5 + 1) cap7) (fullTo bs (5 + 1)) from ⟨hq7.1, fun g hg => by have := hq7.2.1 g hg; unfold New at this; omega, Nat.le_refl _⟩)
            clear hq7 hm7 hl7 hl8 hlb
            go_wp2
            go_roundw
            case rel => exact ⟨5 + 1, ao7, cap7, by go_num, by omega, rfl, HQ7.out, KO7.out⟩
            case measure => first | (simp [intOf]; done) | (simp [intOf]; omega)
          | 6, _ =>
            have hv : y = x / 256 % 256 := by rw [HV.out]; simp
            have HVV := Lib.hid hv
            rw [hv] at hlb
            clear hv
            go_wp2_with (at_builtin; go_must (refine wpList_appR1 rfl (.tmp 31) (.tmp 38) rfl rfl KF.out rfl hlb.1 hlb.2 (by rw [HFL.out]; omega) ?_))
            intro ao7 cap7 w7 hq7 hm7
            have KO7 := Lib.hid (KO.out.mod hm7 (fun k hk => hk))
            have z7 := hm7.size
            rw [← HVV.out, HY.out, fullTo_succ, HFL.out] at hq7
            rw [HFL.out]
            have hl7 := fullTo_len bs (6 + 1)
            have hl8 := HN.out
            have HQ7 := Lib.hid (show FulO w w7 (.slice ao7 (n + 6 + 1) cap7) (fullTo bs (6 + 1)) from ⟨hq7.1, fun g hg => by have := hq7.2.1 g hg; unfold New at this; omega, Nat.le_refl _⟩)
            clear hq7 hm7 hl7 hl8 hlb
            go_wp2
            go_roundw
            case rel => exact ⟨6 + 1, ao7, cap7, by go_num, by omega, rfl, HQ7.out, KO7.out⟩
            case measure => first | (simp [intOf]; done) | (simp [intOf]; omega)
          | 7, _ =>
            have hv : y = x % 256 := by rw [HV.out]; simp
            have HVV := Lib.hid hv
            rw [hv] at hlb
            clear hv
            go_wp2_with (at_builtin; go_must (refine wpList_appR1 rfl (.tmp 31) (.tmp 38) rfl rfl KF.out rfl hlb.1 hlb.2 (by rw [HFL.out]; omega) ?_))
            intro ao7 cap7 w7 hq7 hm7
            have KO7 := Lib.hid (KO.out.mod hm7 (fun k hk => hk))
            have z7 := hm7.size
            rw [← HVV.out, HY.out, fullTo_succ, HFL.out] at hq7
            rw [HFL.out]
            have hl7 := fullTo_len bs (7 + 1)
            have hl8 := HN.out
            have HQ7 := Lib.hid (show FulO w w7 (.slice ao7 (n + 7 + 1) cap7) (fullTo bs (7 + 1)) from ⟨hq7.1, fun g hg => by have := hq7.2.1 g hg; unfold New at this; omega, Nat.le_refl _⟩)
            clear hq7 hm7 hl7 hl8 hlb
            go_wp2
            go_roundw
            case rel => exact ⟨7 + 1, ao7, cap7, by go_num, by omega, rfl, HQ7.out, KO7.out⟩
            case measure => first | (simp [intOf]; done) | (simp [intOf]; omega)
        · obtain rfl : i = 8 := by omega
          obtain ⟨fb, hfb⟩ : ∃ fb, fb = fullB bs := ⟨_, rfl⟩
          have hL : fb.length = n + 8 := by rw [hfb]; exact HFL.out
          have hdiv : fb.length % 64 = 0 := by rw [hfb]; exact full_div bs
          have hFF : FulO w wi (.slice ao6 (n + 8) cap6) fb := by rw [hfb]; exact KF.out
          have HFB := Lib.hid hfb
          have HFF := Lib.hid hFF
          have HDIV := Lib.hid hdiv
          have HL := Lib.hid hL
          clear hfb hFF hL hdiv KF HFL
          rw [show ((8 : Nat) : Int) = 8 from rfl]
          go_wp2_with fail
          refine (rounds_any _).mono ?_
          rintro e w8 ⟨rfl, hm8⟩
          have z8 := hm8.size
          have KO8 := Lib.hid (KO.out.mod hm8 (fun k h => h.elim))
          have HF8 := HFF.out.rd.mod hm8 (fun k _ h => h.elim)
          have HF9 := Lib.hid (show RdR (fun k => w.heap.size + 2 ≤ k ∧ k < w8.heap.size) fb.length w8 (.slice ao6 (n + 8) cap6) fb from ⟨HF8.1, fun h0 g hg => ⟨HF8.2.1 h0 g hg, HF8.1.block_lt h0 g hg⟩, Nat.le_refl _⟩)
          have zr8 := KO8.out.k3.lt
          clear hm8 HF8 KO HFF
          have HKL := Lib.hid (show 0 + (K256.map wv).length ≤ 64 by rw [List.length_map, K256_len]; exact Nat.le_refl _)
          have HKS := Lib.hid (show (Try.prog.info? 171).map (·.size) = some (K256.map wv).length by rw [List.length_map, K256_len]; exact size_a64)
          go_wp2_with ((with_reducible show wpList _ _ _ (Oper.mk none (Op.store 171 (.tmp 7) (.tmp 41)) _ _ _ _ :: _) _ _); go_must (refine wpList_storeA rfl 171 (.tmp 7) (.tmp 41) rfl (Cs.new _ _ _) (off := 0) (vs := K256.map wv) HKS.out (wv_one _) HKL.out rfl rfl ?_))
          intro w9 hc9 hm9
          rw [lay_whole _ _ (by rw [List.length_map, K256_len]; rfl)] at hc9
          have hm9' : Mod (fun _ => False) w8 w9 := ((Mod.refl _ _).alloc _).trans hm9 (by intro k h1 h2; (try dsimp only at h2); omega)
          have z9 := hm9'.size
          have zg := Cs.lt hc9
          have KO9 := Lib.hid (KO8.out.mod hm9' (fun k h => h.elim))
          have KK := Lib.hid (show Ws 171 w9 w8.heap.size K256 from hc9)
          have HF10 := Lib.hid (HF9.out.mod hm9' (fun _ _ h => h))
          clear hc9 hm9 hm9' KO8 HF9 HKL
          obtain ⟨g7, hg7⟩ : ∃ g, g = w8.heap.size := ⟨_, rfl⟩
          rw [← hg7] at KK HF10 zg
          rw [← hg7]
          have hg72 : w.heap.size + 2 ≤ g7 := by omega
          clear hg7 z8 z9 zr8
          have hn8 : n + 8 ≤ 960000 := by omega
          go_wp2
          go_loopw [4] (fun t4 wr => ∃ (t m : Nat) (ao : Option Addr) (cap : Nat), t4 = .slice ao m cap ∧ m + 64 * t = n + 8 ∧ RdR (fun k => w.heap.size + 2 ≤ k ∧ k < g7) fb.length wr (.slice ao m cap) (fb.drop (64 * t)) ∧ SumO w (blocksTo fb t) wr ∧ Ws 171 wr g7 K256) (fun t4 _ => lenOf t4)
          case atStart => exact ⟨0, n + 8, ao6, cap6, rfl, by omega, HF10.out, KO9.out, KK.out⟩
          case round =>
            obtain ⟨wj, rfl⟩ : ∃ x, x = wr := ⟨_, rfl⟩
            obtain ⟨t, m, ao10, cap10, rfl, hm, hF, hO, hK⟩ := hrel
            have hfl : fb.length = n + 8 := HL.out
            have hdl : (fb.drop (64 * t)).length = m := by rw [List.length_drop]; omega
            have hcl := hF.1.len.2
            have hdv : m % 64 = 0 := by have := HDIV.out; omega
            have KF := Lib.hid hF
            have KO := Lib.hid hO
            have KK2 := Lib.hid hK
            have HDL := Lib.hid hdl
            have zj := hO.k3.lt
            have zk := hK.lt
            clear hF hO hK hfl hdl KO9 KK HF10
            by_cases hlt : 0 < m
            · have hm64 : 64 ≤ m := by omega
              have hlti : (0 : Int) < (m : Int) := by omega
              obtain ⟨H, hH⟩ : ∃ H, H = blocksTo fb t := ⟨_, rfl⟩
              have hHl : H.length = 8 := by rw [hH]; exact blocks_len fb t
              have hsucc := blocks_succ fb t
              rw [← hH] at KO hsucc
              have HS := Lib.hid hsucc
              have HHL := Lib.hid hHl
              have HSZ := Lib.hid (show (Try.prog.info? 170).map (·.size) = some (H.map wv).length by rw [List.length_map, hHl]; exact size_a8)
              have HKS2 := Lib.hid (show (Try.prog.info? 171).map (·.size) = some (K256.map wv).length from HKS.out)
              have HC8 := Lib.hid (show ∀ k u, (H.map wv)[k]? = some u → wj.cell? ⟨w.heap.size + 1, 0 + k, none⟩ = some u by intro k u hu; rw [Nat.zero_add, Cs.cell KO.out.k3]; simpa using hu)
              have HC64 := Lib.hid (show ∀ k u, (K256.map wv)[k]? = some u → wj.cell? ⟨g7, 0 + k, none⟩ = some u by intro k u hu; rw [Nat.zero_add, Cs.cell KK2.out]; simpa using hu)
              have hmix := mix_any H K256 hHl K256_len (.slice ao10 m cap10) (fb.drop (64 * t)) wj KF.out.1 (fun g hg => KF.out.1.block_lt (by have := HDL.out; omega) g hg) (by have := HDL.out; omega)
              rw [← hsucc] at hmix
              have HMIX := Lib.hid hmix
              clear hH hHl hsucc hmix
              go_upto_region 14 with (fail)
              go_step
              refine wpList_loadA rfl 170 (.tmp 3) rfl Try.underlying170 rfl (g := w.heap.size + 1) (off := 0) (cs := H.map wv) HSZ.out rfl HC8.out ?_
              simp only [Act.put, List.setIfInBounds_toArray, List.set_cons_zero, List.set_cons_succ]
              refine wpList_loadA rfl 171 (.tmp 7) rfl Try.underlying171 rfl (g := g7) (off := 0) (cs := K256.map wv) HKS2.out rfl HC64.out ?_
              simp only [Act.put, List.setIfInBounds_toArray, List.set_cons_zero, List.set_cons_succ]
              go_wp2_with fail
              refine (HMIX.out).mono ?_
              rintro e w10 ⟨rfl, hm10⟩
              obtain ⟨H2, hH2⟩ : ∃ H2, H2 = blocksTo fb (t + 1) := ⟨_, rfl⟩
              have hH2l : H2.length = 8 := by rw [hH2]; exact blocks_len fb (t + 1)
              rw [← hH2]
              have HH2 := Lib.hid hH2
              have HSZ2 := Lib.hid (show (Try.prog.info? 170).map (·.size) = some (H2.map wv).length by rw [List.length_map, hH2l]; exact size_a8)
              have HFT := Lib.hid (show 0 + (H2.map wv).length ≤ (H.map wv).toArray.size by simp [hH2l, HHL.out])
              have HLY := Lib.hid (lay_whole (H.map wv).toArray (H2.map wv) (by simp [hH2l, HHL.out]))
              have z10 := hm10.size
              have KO10 := Lib.hid (KO.out.mod hm10 (fun k h => h.elim))
              have KK10 := Lib.hid (KK2.out.mod hm10 (fun h => h))
              have KF10 := Lib.hid (KF.out.mod hm10 (fun _ _ h => h))
              clear hH2 hH2l hm10 KO KK2 KF HMIX HC8 HC64
              go_wp2_with ((with_reducible show wpList _ _ _ (Oper.mk none (Op.store 170 (.tmp 3) (.tmp 50)) _ _ _ _ :: _) _ _); go_must (refine wpList_storeA rfl 170 (.tmp 3) (.tmp 50) rfl KO10.out.k3 (off := 0) (vs := H2.map wv) HSZ2.out (wv_one _) HFT.out rfl rfl ?_))
              intro w11 hc11 hm11
              rw [HLY.out] at hc11
              have z11 := hm11.size
              have KO11 := Lib.hid (KO10.out.put hm11 hc11)
              have KK11 := Lib.hid (KK10.out.mod hm11 (by omega))
              have KF11 := KF10.out.mod hm11 (by intro k h1 h2; (try dsimp only at h1 h2); omega)
              have hdd : (fb.drop (64 * t)).drop 64 = fb.drop (64 * (t + 1)) := by rw [List.drop_drop]; congr 1
              clear hc11 hm11 KO10 KK10 KF10
              rw [HH2.out] at KO11
              by_cases hc64 : cap10 = 64
              · have hta := RdB.tail_at KF11.1 64 (by rw [HDL.out]; omega) hc64
                rw [hdd, HDL.out] at hta
                have HTA := Lib.hid (show RdR (fun k => w.heap.size + 2 ≤ k ∧ k < g7) fb.length w11 (.slice ao10 (m - 64) 0) (fb.drop (64 * (t + 1))) from ⟨hta, fun h0 g hg => KF11.2.1 (by rw [HDL.out]; omega) g (by cases ao10 <;> simp_all [Value.ownBlock]), by simp⟩)
                clear hta KF11 hdd
                go_wp2
                go_roundw
                case rel => exact ⟨t + 1, m - 64, ao10, 0, rfl, by omega, HTA.out, KO11.out, KK11.out⟩
                case measure => simp [lenOf]; omega
              · have hta := RdB.tail_in KF11.1 64 (by rw [HDL.out]; omega) hc64
                rw [hdd, HDL.out] at hta
                have HTA := Lib.hid (show RdR (fun k => w.heap.size + 2 ≤ k ∧ k < g7) fb.length w11 (.slice (ao10.map fun x => x.add 64) (m - 64) (cap10 - 64)) (fb.drop (64 * (t + 1))) from ⟨hta, fun h0 g hg => KF11.2.1 (by rw [HDL.out]; omega) g (by rw [← ownBlock_map ao10 64 (m - 64) (cap10 - 64) m cap10]; exact hg), by simp⟩)
                clear hta KF11 hdd
                go_wp2
                go_roundw
                case rel => exact ⟨t + 1, m - 64, ao10.map fun x => x.add 64, cap10 - 64, rfl, by omega, HTA.out, KO11.out, KK11.out⟩
                case measure => simp [lenOf]; omega
            · obtain rfl : m = 0 := by omega
              have hn0 : n + 8 = 64 * t := by omega
              have htl : t = fb.length / 64 := by have := HL.out; omega
              have hres : shaF bs = (List.range 32).map (outB (blocksTo fb t)) := by rw [htl, HFB.out]; rfl
              obtain ⟨H, hH⟩ : ∃ H, H = blocksTo fb t := ⟨_, rfl⟩
              have hHl : H.length = 8 := by rw [hH]; exact blocks_len fb t
              rw [← hH] at KO hres
              have HRES := Lib.hid (show outTo H 32 = shaF bs by rw [hres]; simp [outTo])
              have HHL := Lib.hid hHl
              have HSZ := Lib.hid (show (Try.prog.info? 170).map (·.size) = some (H.map wv).length by rw [List.length_map, hHl]; exact size_a8)
              have z12 := KO.out.k3.lt
              clear hH hHl hres htl hn0 hm KF KK2 HDL HL HFB HDIV HX hdv hlt
              go_upto_region 16 with (fail)
              obtain ⟨w12, hw12⟩ : ∃ x, x = wj.alloc (.cells ((List.replicate 32 0).map bv).toArray 25) := ⟨_, rfl⟩
              change Code.wp _ _ _ _ (wj.alloc (.cells ((List.replicate 32 0).map bv).toArray 25))
              rw [← hw12]
              have hm12 : Mod (fun _ => False) wj w12 := by rw [hw12]; exact (Mod.refl _ _).alloc _
              have KO12 := Lib.hid (KO.out.mod hm12 (fun k h => h.elim))
              have KT := Lib.hid (show Cs w12 wj.heap.size ((outTo H 0).map bv).toArray 25 by rw [hw12]; exact Cs.new _ _ _)
              have HC8 := Lib.hid (show ∀ k u, (H.map wv)[k]? = some u → w12.cell? ⟨w.heap.size + 1, 0 + k, none⟩ = some u by intro k u hu; rw [Nat.zero_add, Cs.cell KO12.out.k3]; simpa using hu)
              obtain ⟨g8, hg8⟩ : ∃ g, g = wj.heap.size := ⟨_, rfl⟩
              rw [← hg8] at KT z12
              rw [← hg8]
              clear hw12 hm12 KO hg8
              go_step
              refine wpList_loadA rfl 170 (.tmp 3) rfl Try.underlying170 rfl (g := w.heap.size + 1) (off := 0) (cs := H.map wv) HSZ.out rfl HC8.out ?_
              simp only [Act.put, List.setIfInBounds_toArray, List.set_cons_zero, List.set_cons_succ]
              clear HC8
              go_wp2
              go_loopw [52] (fun t52 wr => ∃ (i : Nat), t52 = .int .i64 i ∧ i ≤ 8 ∧ Cs wr g8 ((outTo H (4 * i)).map bv).toArray 25 ∧ SumO w H wr) (fun t52 _ => 8 - (intOf t52).toNat)
              case atStart => exact ⟨0, rfl, by omega, KT.out, KO12.out⟩
              case round =>
                obtain ⟨wk, rfl⟩ : ∃ x, x = wr := ⟨_, rfl⟩
                obtain ⟨i, rfl, hi, hT, hO⟩ := hrel
                clear KT KO12
                have KT := Lib.hid hT
                have KO := Lib.hid hO
                clear hT hO
                by_cases hlt : i < 8
                · obtain ⟨x, hx⟩ : ∃ x, x = H.getD i 0 := ⟨_, rfl⟩
                  have HX := Lib.hid hx
                  clear hx
                  have hsz1 : (Try.prog.info? 169).map (·.size) = some 1 := by kernel_rfl
                  have HS1 := Lib.hid hsz1
                  clear hsz1
                  go_wp2_with ((with_reducible show wpList _ _ _ (Oper.mk (some 55) _ _ _ _ _ :: _) _ _); go_must (refine wpList_idxA rfl 170 (.tmp 51) (.tmp 52) rfl (i := i) Try.underlying170 Try.underlying169 HS1.out H HHL.out hlt rfl rfl ?_); rw [← HX.out])
                  go_loopw [56] (fun t56 wr => ∃ (j : Nat), t56 = .int .i64 j ∧ j ≤ 4 ∧ Cs wr g8 ((outTo H (4 * i + j)).map bv).toArray 25 ∧ SumO w H wr) (fun t56 _ => 4 - (intOf t56).toNat)
                  case atStart => exact ⟨0, rfl, by omega, KT.out, KO.out⟩
                  case round =>
                    obtain ⟨wm, rfl⟩ : ∃ x, x = wr := ⟨_, rfl⟩
                    obtain ⟨j, rfl, hj, hT, hO⟩ := hrel
                    clear KT KO
                    have KT := Lib.hid hT
                    have KO := Lib.hid hO
                    clear hT hO
                    by_cases hlj : j < 4
                    · have hq : 4 * i + j < 32 := by omega
                      have hl32 := outTo_len H (4 * i + j) (by omega)
                      have hc : wm.cell? ⟨g8, 4 * i + j, none⟩ = some (bv ((outTo H (4 * i + j)).getD (4 * i + j) 0)) := by
                        rw [KT.out.cell]; simp [List.getD, hl32, hq]
                      have hf := KT.out.frozen (4 * i + j)
                      have hnext := Cs_setB KT.out (4 * i + j) (outB H (4 * i + j))
                      rw [outTo_succ H _ hq, outB_at H i j hlj, ← HX.out] at hnext
                      have hmm : Mod (fun k => k = g8) wm (wm.setCell ⟨g8, 4 * i + j, none⟩ (bv (x / 2 ^ (24 - 8 * j) % 256))) := Mod.setCell (Mod.refl (fun k => k = g8) wm) (p := ⟨g8, 4 * i + j, none⟩) (fun _ => rfl) _
                      have hon := KO.out.mod hmm (fun k hk => by omega)
                      have HNX := Lib.hid hnext
                      have HON := Lib.hid hon
                      generalize (outTo H (4 * i + j)).getD (4 * i + j) 0 = old at hc
                      clear hnext hmm hon hl32
                      have HJ := Lib.hid hlj
                      match j, hlj with
                      | 0, _ =>
                        have h1 := HNX.out
                        have h2 := HON.out
                        rw [show (2 : Int) ^ (24 - 8 * 0) = 16777216 from by decide] at h1 h2
                        simp only [Nat.add_zero] at hc hf
                        have H1 := Lib.hid h1
                        have H2 := Lib.hid h2
                        clear h1 h2 HNX HON
                        go_wp2
                        go_roundw
                        case rel => exact ⟨0 + 1, by go_num, by omega, H1.out, H2.out⟩
                        case measure => first | (simp [intOf]; done) | (simp [intOf]; omega)
                      | 1, _ =>
                        have h1 := HNX.out
                        have h2 := HON.out
                        rw [show (2 : Int) ^ (24 - 8 * 1) = 65536 from by decide] at h1 h2
                        skip
                        have H1 := Lib.hid h1
                        have H2 := Lib.hid h2
                        clear h1 h2 HNX HON
                        go_wp2
                        go_roundw
                        case rel => exact ⟨1 + 1, by go_num, by omega, H1.out, H2.out⟩
                        case measure => first | (simp [intOf]; done) | (simp [intOf]; omega)
                      | 2, _ =>
                        have h1 := HNX.out
                        have h2 := HON.out
                        rw [show (2 : Int) ^ (24 - 8 * 2) = 256 from by decide] at h1 h2
                        skip
                        have H1 := Lib.hid h1
                        have H2 := Lib.hid h2
                        clear h1 h2 HNX HON
                        go_wp2
                        go_roundw
                        case rel => exact ⟨2 + 1, by go_num, by omega, H1.out, H2.out⟩
                        case measure => first | (simp [intOf]; done) | (simp [intOf]; omega)
                      | 3, _ =>
                        have h1 := HNX.out
                        have h2 := HON.out
                        rw [show (2 : Int) ^ (24 - 8 * 3) = 1 from by decide, Int.ediv_one] at h1 h2
                        skip
                        have H1 := Lib.hid h1
                        have H2 := Lib.hid h2
                        clear h1 h2 HNX HON
                        go_wp2
                        go_roundw
                        case rel => exact ⟨3 + 1, by go_num, by omega, H1.out, H2.out⟩
                        case measure => first | (simp [intOf]; done) | (simp [intOf]; omega)
                    · obtain rfl : j = 4 := by omega
                      go_wp2
                      go_roundw
                      case rel => exact ⟨i + 1, by go_num, by omega, by have := KT.out; rw [show 4 * i + 4 = 4 * (i + 1) by omega] at this; exact this, KO.out⟩
                      case measure => first | (simp [intOf]; done) | (simp [intOf]; omega)
                · obtain rfl : i = 8 := by omega
                  have hF := HRES.out
                  obtain ⟨F, hFF⟩ : ∃ F, F = shaF bs := ⟨_, rfl⟩
                  rw [← hFF] at hF
                  have hFl : F.length = 32 := by rw [hFF]; exact shaF_len bs
                  have hT := KT.out
                  rw [show 4 * 8 = 32 from rfl, hF] at hT
                  have HT := Lib.hid hT
                  have HFF2 := Lib.hid hFF
                  have HSF := Lib.hid (show (Try.prog.info? 25).map (·.size) = some (F.map bv).length by rw [List.length_map, hFl]; exact size_hash)
                  have HCF := Lib.hid (show ∀ k u, (F.map bv)[k]? = some u → wk.cell? ⟨g8, 0 + k, none⟩ = some u by intro k u hu; rw [Nat.zero_add, HT.out.cell]; simpa using hu)
                  have HFF := Lib.hid (show 0 + (F.map bv).length ≤ ((List.replicate 32 0).map bv).toArray.size by simp [hFl])
                  have HLY := Lib.hid (lay_whole ((List.replicate 32 0).map bv).toArray (F.map bv) (by simp [hFl]))
                  clear hF hFF hFl hT KT
                  rw [show ((8 : Nat) : Int) = 8 from rfl]
                  go_upto_region 25 with (fail)
                  go_step
                  refine wpList_loadA rfl 25 (.tmp 8) rfl Try.underlying25 rfl (g := g8) (off := 0) (cs := F.map bv) HSF.out rfl HCF.out ?_
                  simp only [Act.put, List.setIfInBounds_toArray, List.set_cons_zero, List.set_cons_succ]
                  refine wpList_storeA rfl 25 (.tmp 2) (.tmp 72) rfl KO.out.k2 (vs := F.map bv) HSF.out (ints_oneCell .u8 _) HFF.out rfl rfl ?_
                  intro w20 hc20 hm20
                  rw [HLY.out] at hc20
                  go_wp2
                  refine bodyPost_ret (results_cellA rfl _ _ w.heap.size (F.map bv) rfl (fun k u hu => by rw [hc20.cell]; simpa using hu) Try.underlying25 rfl HSF.out) rfl ⟨by rw [HFF2.out]; rfl, KO.out.m.trans (hm20.mono (S' := fun k => k = w.heap.size) (fun k _ hk => hk)) (by intro k h1 h2; omega)⟩
end Go.Proofs.Ytknpapcfhnhheaa

/- A writer that a region fills, one call behind the other: the state for wp_region_G. -/
set_option maxRecDepth 100000
set_option linter.unusedVariables false
namespace Go.Proofs.Ytknpapcfhnhheaa
open Go Go.RowKit Go.Gv

/-- how much a stage has at most -/
def Nf (k : Nat) : Nat := 100 * k
/-- the trail of a new writer: it is made, then filled: behind k calls it has ct k -/
def WcG (B : Nat) (ct : Nat → List Int) (t : List Value) (w : World) : Prop := B ≤ w.heap.size ∧
  ∀ p, t[0]? = some p → ∃ g, p = .pointer (some ⟨g, 0, none⟩) ∧ (∀ q ∈ t, q = p) ∧ B ≤ g ∧
    (t.length = 1 → Cs w g #[.slice none 0 0] 138) ∧ (2 ≤ t.length → WrR (fun k => B ≤ k) (Nf t.length) w g (ct t.length))
def WcS (B : Nat) : Nat → Nat → Prop := fun k j => 1 ≤ k ∧ B ≤ j
theorem WcS_T (B : Nat) : ∀ k j, WcS B k j → B ≤ j := fun _ _ h => h.2
theorem WcG_nil {B : Nat} {ct : Nat → List Int} {w : World} (h : B ≤ w.heap.size) : WcG B ct [] w := ⟨h, fun p hp => by simp at hp⟩
theorem Cs_marked {B : Nat} {T8 : TypeId} {w w' : World} {g : Nat} {c : Array Value} {e : TypeId} (h : Cs w g c e) (hm : Marked B T8 w w') (hne : e ≠ T8) : Cs w' g c e := by
  rcases hm.block g h.lt with h1 | ⟨-, C, m, h1, -⟩
  · exact h1.trans h
  · unfold Cs at h
    rw [h] at h1
    cases h1
    exact absurd rfl hne
theorem WcG_still {B : Nat} {ct : Nat → List Int} : ∀ t w w', WcG B ct t w → StillM B 5 1 t.length w w' → WcG B ct t w' := by
  rintro t w w' ⟨h0, h⟩ hr
  refine ⟨Nat.le_trans h0 (by rcases hr with hr | ⟨-, hr⟩; exact hr.size; exact hr.size), fun p hp => ?_⟩
  obtain ⟨g, h1, h2, h3, h4, h5⟩ := h p hp
  rcases hr with hr | ⟨hk, hr⟩
  · exact ⟨g, h1, h2, h3, fun h => (h4 h).mod hr (fun h => h), fun h => (h5 h).mod hr (fun _ _ h => h)⟩
  · exact ⟨g, h1, h2, h3, fun h => Cs_marked (h4 h) hr (by decide), fun h => by omega⟩
/-- the writer is made -/
theorem WcG_new {B : Nat} {ct : Nat → List Int} {t : List Value} {w w' : World} (h : WcG B ct t w) (hl : t.length = 0) {g : Nat} (hg : w.heap.size ≤ g) (hc : Wr w' g (.slice none 0 0) []) (hm : Mod (fun _ => False) w w') : WcG B ct (t ++ [.pointer (some ⟨g, 0, none⟩)]) w' := by
  obtain rfl : t = [] := List.eq_nil_of_length_eq_zero hl
  refine ⟨Nat.le_trans h.1 hm.size, fun p hp => ?_⟩
  simp only [List.nil_append, List.getElem?_cons_zero, Option.some.injEq] at hp
  subst hp
  exact ⟨g, rfl, by simp, Nat.le_trans h.1 hg, fun _ => hc.1, fun h => by simp at h⟩
theorem WcG_at {B : Nat} {ct : Nat → List Int} {t : List Value} {w : World} (h : WcG B ct t w) (hl : 0 < t.length) : ∃ g, t[0]? = some (.pointer (some ⟨g, 0, none⟩)) ∧ (∀ q ∈ t, q = .pointer (some ⟨g, 0, none⟩)) ∧ B ≤ g := by
  obtain ⟨g, h1, h2, h3, -, -⟩ := h.2 t[0] (List.getElem?_eq_getElem hl)
  exact ⟨g, by rw [List.getElem?_eq_getElem hl, h1], by rw [← h1]; exact h2, h3⟩
theorem WcG_on {B : Nat} {ct : Nat → List Int} {t : List Value} {w w' : World} (h : WcG B ct t w) {g : Nat} (h0 : t[0]? = some (.pointer (some ⟨g, 0, none⟩))) (h2 : 2 ≤ (t ++ [Value.pointer (some ⟨g, 0, none⟩)]).length) {N : Nat} {R : Nat → Prop} (hw : WrR R N w' g (ct (t.length + 1))) (hR : ∀ k, R k → B ≤ k) (hN : N ≤ Nf (t.length + 1)) (hs : w.heap.size ≤ w'.heap.size) : WcG B ct (t ++ [.pointer (some ⟨g, 0, none⟩)]) w' := by
  have hlt : 0 < t.length := (List.getElem?_eq_some_iff.1 h0).1
  obtain ⟨g', e1, e2, e3⟩ := WcG_at h hlt
  rw [h0] at e1
  cases e1
  refine ⟨Nat.le_trans h.1 hs, fun p hp => ?_⟩
  rw [List.getElem?_append_left hlt, h0] at hp
  cases hp
  refine ⟨g, rfl, fun q hq => ?_, e3, fun h => by rw [h] at h2; omega, fun _ => ?_⟩
  · rcases List.mem_append.1 hq with hq | hq
    · exact e2 q hq
    · simpa using hq
  · rw [List.length_append]
    exact hw.widen hR hN
/-- what stands in the trail at any place is the writer -/
theorem WcG_val {B : Nat} {ct : Nat → List Int} {t : List Value} {w : World} (h : WcG B ct t w) {j : Nat} {v : Value} (hv : t[j]? = some v) : ∃ g, v = .pointer (some ⟨g, 0, none⟩) ∧ t[0]? = some (.pointer (some ⟨g, 0, none⟩)) ∧ B ≤ g ∧ (t.length = 1 → Cs w g #[.slice none 0 0] 138) ∧ (2 ≤ t.length → WrR (fun k => B ≤ k) (Nf t.length) w g (ct t.length)) := by
  have hlt : 0 < t.length := by have := (List.getElem?_eq_some_iff.1 hv).1; omega
  obtain ⟨g, h1, h2, h3, h4, h5⟩ := h.2 t[0] (List.getElem?_eq_getElem hlt)
  have := h2 v (List.mem_of_getElem? hv)
  exact ⟨g, by rw [this, h1], by rw [List.getElem?_eq_getElem hlt, h1], h3, h4, h5⟩
/-- the first call: a row that is a literal -/
theorem Wc_row {B : Nat} {ct : Nat → List Int} {t : List Value} {w : World} {p v : Value} {C : List Int} (h : WcG B ct t w) (hl : t.length = 1) (hp : t[0]? = some p) (hv : litG B 5 1 (C.map bv).toArray t v w) (hC : Bytes C) (hC2 : C.length ≤ 50) (hct : ct 2 = encN C.length ++ C) :
    Calls Try.prog 107 #[p, v] w fun e w' => ∃ u, e = .returned u ∧ Mod (WcS B t.length) w w' ∧ (t ++ [u])[1]? = some u ∧ WcG B ct (t ++ [u]) w' := by
  obtain ⟨g, rfl, h0, hB, hc, -⟩ := WcG_val h hp
  obtain ⟨g2, rfl, hB2, m, -, hb⟩ := hv (by omega)
  have hcs := hc hl
  have hne : g2 ≠ g := by
    rintro rfl
    unfold Cs at hcs
    rw [hb] at hcs
    have e : (5 : TypeId) = 138 := congrArg (fun o => match o with | some (Obj.cells _ e _) => e | _ => 0) hcs
    exact absurd e (by decide)
  have hW : WrR (fun k => k = g) 0 w g [] := ⟨.slice none 0 0, ⟨hcs, OwnB.nil _⟩, rfl, (fun g hg => by cases hg), Nat.le_refl _⟩
  have hrd : RdB w (.slice (some ⟨g2, 0, none⟩) (C.map bv).toArray.size (C.map bv).toArray.size) C := by
    refine ⟨hC, ?_⟩
    have e : (C.map bv).toArray.size = C.length := by simp
    rw [e]
    refine Rd.mk (by omega) (by rw [maxLen_val]; omega) (by simp) (fun j u hu => ?_)
    rw [show (0 : Nat) + j = j by omega]
    simp only [World.cell?, hb]
    simpa using hu
  have hr : RdR (fun k => k = g2) 50 w (.slice (some ⟨g2, 0, none⟩) (C.map bv).toArray.size (C.map bv).toArray.size) C := ⟨hrd, fun _ g hg => (Option.some.inj (hg.symm.trans rfl)), hC2⟩
  refine (WRow_R hW hr (fun k h1 h2 => hne (h1.symm.trans h2)) (by omega)).mono ?_
  rintro e w2 ⟨rfl, hw2, hm2⟩
  refine ⟨_, rfl, hm2.mono (fun k _ hk => ⟨by omega, by subst hk; exact hB⟩), ?_, WcG_on h h0 (by simp; omega) (R := fun k => k = g ∨ New w w2 k) (N := 0 + 50 + 10) (by rw [hl, hct]; simpa using hw2) (fun k hk => ?_) (by rw [hl]; decide) hm2.size⟩
  · rw [List.getElem?_append_right (by omega), hl]; rfl
  · rcases hk with rfl | hk
    · exact hB
    · exact Nat.le_trans h.1 hk.1
/-- a whole number -/
theorem Wc_int {B : Nat} {ct : Nat → List Int} {t : List Value} {w : World} {p : Value} {n : Int} {k : Nat} (h : WcG B ct t w) (hl : t.length = k) (h2 : 2 ≤ k) (h9 : k ≤ 90) {j : Nat} (hp : t[j]? = some p) (hn : -9223372036854775808 ≤ n ∧ n ≤ 9223372036854775807) (hct : ct (k + 1) = ct k ++ encI n) :
    Calls Try.prog 64 #[p, .int .i64 n] w fun e w' => ∃ u, e = .returned u ∧ Mod (WcS B t.length) w w' ∧ (t ++ [u])[k]? = some u ∧ WcG B ct (t ++ [u]) w' := by
  obtain ⟨g, rfl, h0, hB, -, hw⟩ := WcG_val h hp
  refine (WInt_R (hw (by omega)) hn (by unfold Nf; omega)).mono ?_
  rintro e w2 ⟨rfl, hw2, hm2⟩
  refine ⟨_, rfl, hm2.mono (fun k _ hk => ⟨by omega, hk⟩), ?_, WcG_on h h0 (by simp; omega) (by rw [hl, hct]; rw [hl] at hw2; exact hw2) (fun k hk => ?_) (by unfold Nf; omega) hm2.size⟩
  · rw [List.getElem?_append_right (by omega), hl]; simp
  · rcases hk with hk | hk
    · exact hk
    · exact Nat.le_trans h.1 hk.1
end Go.Proofs.Ytknpapcfhnhheaa

/- commit.Of. -/
set_option maxRecDepth 100000
set_option linter.unusedVariables false
namespace Go.Proofs.Ytknpapcfhnhheaa
open Go Go.RowKit Go.Gv

def commitLit : List Int := [99, 111, 109, 109, 105, 116]
def ofC (a b : Int) (h bs : List Int) : Nat → List Int
  | 0 | 1 => []
  | 2 => encN commitLit.length ++ commitLit
  | 3 => (encN commitLit.length ++ commitLit) ++ encI a
  | 4 => ((encN commitLit.length ++ commitLit) ++ encI a) ++ encI b
  | 5 => (((encN commitLit.length ++ commitLit) ++ encI a) ++ encI b) ++ h
  | _ => ((((encN commitLit.length ++ commitLit) ++ encI a) ++ encI b) ++ h) ++ (encN bs.length ++ bs)
def ofT (a b : Int) (h bs : List Int) : List Int := ofC a b h bs 6
def I64 (n : Int) : Prop := -9223372036854775808 ≤ n ∧ n ≤ 9223372036854775807
def OfSt (B g gr : Nat) (ct : Nat → List Int) : Nat → List Value → World → Prop := fun k t w => B ≤ w.heap.size ∧ match k with
  | 0 => WrR (fun k => B ≤ k) (Nf 4) w g (ct 4) ∧ Cs w gr ((List.replicate 32 0).map bv).toArray 25
  | 1 => WrR (fun k => B ≤ k) (Nf 4 + 32) w g (ct 5) ∧ Cs w gr ((List.replicate 32 0).map bv).toArray 25
  | 2 => WrR (fun k => B ≤ k) 900000 w g (ct 6) ∧ Cs w gr ((List.replicate 32 0).map bv).toArray 25
  | 3 => (∃ v, t[2]? = some v ∧ RdB w v (ct 6) ∧ (ct 6).length ≤ 900000) ∧ Cs w gr ((List.replicate 32 0).map bv).toArray 25
  | 4 => Cs w gr ((List.replicate 32 0).map bv).toArray 25
  | _ => Cs w gr ((shaF (ct 6)).map bv).toArray 25
theorem OfSt_still {B g gr : Nat} {ct : Nat → List Int} : ∀ k t w w', OfSt B g gr ct k t w → Mod (fun _ => False) w w' → OfSt B g gr ct k t w' := by
  rintro k t w w' ⟨h0, h⟩ hm
  refine ⟨Nat.le_trans h0 hm.size, ?_⟩
  match k, h with
  | 0, h | 1, h | 2, h => exact ⟨h.1.mod hm (fun _ _ h => h), h.2.mod hm (fun h => h)⟩
  | 3, ⟨⟨v, h1, h2, h3⟩, h4⟩ => exact ⟨⟨v, h1, h2.mod hm (fun _ _ _ h => h), h3⟩, h4.mod hm (fun h => h)⟩
  | 4, h => exact Cs.mod h hm (fun h => h)
  | k + 5, h => exact Cs.mod h hm (fun h => h)
end Go.Proofs.Ytknpapcfhnhheaa

/- commit.Text. -/
set_option maxRecDepth 100000
set_option linter.unusedVariables false
namespace Go.Proofs.Ytknpapcfhnhheaa
open Go Go.RowKit Go.Gv

/-- a commitment -/
structure Cm where
  cl : Int
  sq : Int
  h : List Int
  ln : Int
  sb : Int
  mr : Int
def Cm.cells (c : Cm) : List Value := [.int .i64 c.cl, .int .i64 c.sq] ++ (c.h.map bv ++ [.int .i64 c.ln, .int .i64 c.sb, .int .i64 c.mr])
def Cm.val (c : Cm) : Value := .agg c.cells.toArray
/-- its numbers are numbers, its hash is one -/
def Cm.OK (c : Cm) : Prop := (I64 c.cl ∧ I64 c.sq ∧ I64 c.ln ∧ I64 c.sb ∧ I64 c.mr) ∧ c.h.length = 32 ∧ Bytes c.h
theorem Cm.len {c : Cm} (h : c.h.length = 32) : c.cells.length = 37 := by simp [Cm.cells, h]
theorem size_commit : (Try.prog.info? 49).map (·.size) = some 37 := by kernel_rfl
section
variable {w : World} {g : Nat} {c : Cm} {T : TypeId}
theorem Cm.at0 (h : Cs w g c.cells.toArray T) : w.cell? ⟨g, 0, none⟩ = some (.int .i64 c.cl) := by rw [h.cell]; rfl
end
end Go.Proofs.Ytknpapcfhnhheaa
namespace Go.Gv
open Go Go.RowKit Go.Proofs.Ytknpapcfhnhheaa
section
variable {w : World} {g : Nat} {c : Cm} {T : TypeId}
theorem Cs.c0 (h : Cs w g c.cells.toArray T) : w.cell? ⟨g, 0, none⟩ = some (.int .i64 c.cl) := by rw [h.cell]; rfl
theorem Cs.c1 (h : Cs w g c.cells.toArray T) : w.cell? ⟨g, 1, none⟩ = some (.int .i64 c.sq) := by rw [h.cell]; rfl
theorem Cs.far (h : Cs w g c.cells.toArray T) (hl : c.h.length = 32) (j : Nat) : w.cell? ⟨g, 34 + j, none⟩ = ([Value.int .i64 c.ln, .int .i64 c.sb, .int .i64 c.mr] : List Value)[j]? := by
  rw [h.cell]
  simp only [List.getElem?_toArray, Cm.cells]
  rw [List.getElem?_append_right (by simp; omega), List.getElem?_append_right (by simp [hl]; omega)]
  simp only [List.length_cons, List.length_nil, List.length_map, hl]
  congr 1
  omega
theorem Cs.c34 (h : Cs w g c.cells.toArray T) (hl : c.h.length = 32) : w.cell? ⟨g, 34, none⟩ = some (.int .i64 c.ln) := Cs.far h hl 0
theorem Cs.c35 (h : Cs w g c.cells.toArray T) (hl : c.h.length = 32) : w.cell? ⟨g, 35, none⟩ = some (.int .i64 c.sb) := Cs.far h hl 1
theorem Cs.c36 (h : Cs w g c.cells.toArray T) (hl : c.h.length = 32) : w.cell? ⟨g, 36, none⟩ = some (.int .i64 c.mr) := Cs.far h hl 2
theorem Cs.hash (h : Cs w g c.cells.toArray T) : ∀ j u, (c.h.map bv)[j]? = some u → w.cell? ⟨g, 2 + j, none⟩ = some u := by
  intro j u hu
  rw [h.cell]
  simp only [List.getElem?_toArray, Cm.cells]
  rw [List.getElem?_append_right (by simp), List.getElem?_append_left (by simpa using (List.getElem?_eq_some_iff.1 hu).1)]
  simpa using hu
theorem Cs.name (h : Cs w g c.cells.toArray T) : ∀ j u, ([Value.int .i64 c.cl, .int .i64 c.sq] : List Value)[j]? = some u → w.cell? ⟨g, 0 + j, none⟩ = some u := by
  intro j u hu
  rw [Nat.zero_add, h.cell]
  simp only [List.getElem?_toArray, Cm.cells]
  rw [List.getElem?_append_left (List.getElem?_eq_some_iff.1 hu).1]
  exact hu
theorem Cs.sig (h : Cs w g c.cells.toArray T) (hl : c.h.length = 32) : ∀ j u, ([Value.int .i64 c.sb, .int .i64 c.mr] : List Value)[j]? = some u → w.cell? ⟨g, 35 + j, none⟩ = some u := by
  intro j u hu
  have := Cs.far h hl (1 + j)
  rw [show 34 + (1 + j) = 35 + j by omega] at this
  rw [this, Nat.add_comm]
  exact hu
theorem Cs.whole {cs : List Value} (h : Cs w g cs.toArray T) : ∀ j u, cs[j]? = some u → w.cell? ⟨g, 0 + j, none⟩ = some u := by
  intro j u hu
  rw [Nat.zero_add, h.cell]
  simpa using hu
end
end Go.Gv
namespace Go.Proofs.Ytknpapcfhnhheaa
open Go Go.RowKit Go.Gv
def requestLit : List Int := [114, 101, 113, 117, 101, 115, 116]
def txC (c : Cm) : Nat → List Int
  | 0 | 1 => []
  | 2 => encN requestLit.length ++ requestLit
  | 3 => (encN requestLit.length ++ requestLit) ++ encI c.cl
  | 4 => ((encN requestLit.length ++ requestLit) ++ encI c.cl) ++ encI c.sq
  | 5 => (((encN requestLit.length ++ requestLit) ++ encI c.cl) ++ encI c.sq) ++ c.h
  | _ => ((((encN requestLit.length ++ requestLit) ++ encI c.cl) ++ encI c.sq) ++ c.h) ++ encI c.ln
def txT (c : Cm) : List Int := txC c 6
def TxSt (B g : Nat) (ct : Nat → List Int) : Nat → List Value → World → Prop := fun k t w => B ≤ w.heap.size ∧ match k with
  | 0 => WrR (fun k => B ≤ k) (Nf 4) w g (ct 4)
  | 1 => WrR (fun k => B ≤ k) (Nf 4 + 32) w g (ct 5)
  | 2 => WrR (fun k => B ≤ k) 500 w g (ct 6)
  | _ => ∃ v, t[2]? = some v ∧ OwR (fun k => B ≤ k) 500 w v (ct 6)
theorem TxSt_still {B g : Nat} {ct : Nat → List Int} : ∀ k t w w', TxSt B g ct k t w → Mod (fun _ => False) w w' → TxSt B g ct k t w' := by
  rintro k t w w' ⟨h0, h⟩ hm
  refine ⟨Nat.le_trans h0 hm.size, ?_⟩
  match k, h with
  | 0, h | 1, h | 2, h => exact WrR.mod h hm (fun _ _ h => h)
  | k + 3, ⟨v, h1, h2⟩ => exact ⟨v, h1, h2.mod hm (fun _ _ h => h)⟩
end Go.Proofs.Ytknpapcfhnhheaa

/- Hashes as keys of maps; zeros. -/
set_option maxRecDepth 100000
set_option linter.unusedVariables false
namespace Go.Proofs.Ytknpapcfhnhheaa
open Go Go.RowKit Go.Gv
open Go.Maps (Keyed)

theorem laidOutX : laidOutB Try.prog = true := by kernel_rfl
theorem mapM_ok {α β : Type} {f : α → Option β} : ∀ {l : List α}, (∀ x ∈ l, ∃ y, f x = some y) → ∃ r, l.mapM f = some r
  | [], _ => ⟨[], rfl⟩
  | a :: l, h => by
    obtain ⟨y, hy⟩ := h a (by simp)
    obtain ⟨r, hr⟩ := mapM_ok (l := l) fun x hx => h x (by simp [hx])
    exact ⟨y :: r, by rw [List.mapM_cons, hy]; simp [hr]⟩
/-- a hash -/
def HK (bs : List Int) : Prop := bs.length = 32 ∧ Bytes bs
theorem hv_inj {a b : List Int} (h : hv a = hv b) : a = b := by
  unfold hv at h
  have h2 : a.map bv = b.map bv := by
    have := congrArg (fun v => match v with | Value.agg x => x.toList | _ => []) h
    simpa using this
  exact (List.map_inj_right (fun x y e => by cases e; rfl)).1 h2
theorem hash_key (bs : List Int) (h : HK bs) : ∃ l, keyOf Try.prog 25 (hv bs) = some l := by
  have hu := Try.underlying25
  have hkt : Try.prog.keyType 25 = true := by kernel_rfl
  have hc : Try.prog.cellsOf 25 = 32 := by kernel_rfl
  have hc1 : Try.prog.cellsOf 5 = 1 := by kernel_rfl
  obtain ⟨n, hn⟩ : ∃ n, n + 2 = Try.prog.types.size + 1 := ⟨Try.prog.types.size - 1, by have : 0 < Try.prog.types.size := of_decide_eq_true (by kernel_rfl); omega⟩
  have hfm : (hv bs).formed Try.prog 25 = true := by simp [Value.formed, hv, hu, hc, h.1]
  have hcl : (hv bs).cells.toList = bs.map bv := by simp [hv, Value.cells]
  unfold keyOf
  rw [hu]
  simp only [hkt, hfm, Bool.and_self, if_true, hcl, ← hn]
  obtain ⟨r, hr⟩ : ∃ r, ((List.range 32).mapM fun i => Try.prog.keyLits (n + 1) 5 (((bs.map bv).drop (i * Try.prog.cellsOf 5)).take (Try.prog.cellsOf 5))) = some r := by
    refine mapM_ok fun i hi => ?_
    have hi' : i < bs.length := by rw [h.1]; exact List.mem_range.1 hi
    have hx := h.2 bs[i] (List.getElem_mem hi')
    have e : ((bs.map bv).drop (i * Try.prog.cellsOf 5)).take (Try.prog.cellsOf 5) = [.int .u8 bs[i]] := by
      rw [hc1, Nat.mul_one, List.drop_eq_getElem_cons (by simpa using hi')]
      simp [bv]
    rw [e]
    unfold Program.keyLits
    rw [Try.underlying5]
    have hw : (Lit.int .u8 bs[i]).wf = true := by simp [Lit.wf, IntKind.min, IntKind.max, IntKind.signed, IntKind.bits]; omega
    simp [hw]
  have hk : Try.prog.keyLits (n + 2) 25 (bs.map bv) = some r.flatten := by
    unfold Program.keyLits
    rw [hu]
    simp only [List.length_map, h.1, hc, if_true, hr, Option.map_some]
  exact ⟨_, by rw [hk]; rfl⟩
theorem hash_enc : KeyEnc Try.prog 25 hv HK where
  law := Keyed.of_law (deep_law_laid laidOutX (m := 3) (by omega) (of_decide_eq_true (by kernel_rfl)) (by kernel_rfl) (by kernel_rfl))
  key := hash_key
  inj := fun a b _ _ h => hv_inj h

theorem zero_run {P : Program} {T : TypeId} {z : Value} (h : (P.info? T).bind (·.zero) = some z) (w : World) : (zeroValue T).run P w = .ok z w := by
  obtain ⟨info, hi, hz⟩ := zero_of h
  simp [zeroValue, typeInfo, hi, hz]
theorem zero_bool : (Try.prog.info? 4).bind (·.zero) = some (.bool false) := by kernel_rfl
theorem zero_int : (Try.prog.info? 3).bind (·.zero) = some (.int .i64 0) := by kernel_rfl
end Go.Proofs.Ytknpapcfhnhheaa

/- The kinds of things that messages are made of: their cells, what reads as one. -/
set_option maxRecDepth 100000
set_option linter.unusedVariables false
namespace Go.Proofs.Ytknpapcfhnhheaa
open Go Go.RowKit Go.Gv

theorem hash_one {h : List Int} : ∀ u ∈ h.map bv, u.oneCell' = true := ints_oneCell .u8 _
/-- a stamp, or an ack -/
structure St where
  rp : Int
  cl : Int
  sq : Int
  h : List Int
  tm : Nat
  sb : Int
  mr : Int
abbrev St.cells (x : St) : List Value := [.int .i64 x.rp, .int .i64 x.cl, .int .i64 x.sq] ++ (x.h.map bv ++ [.int .u64 (x.tm : Nat), .int .i64 x.sb, .int .i64 x.mr])
abbrev St.val (x : St) : Value := .agg x.cells.toArray
structure St.OK (x : St) : Prop where
  rp : I64 x.rp
  cl : I64 x.cl
  sq : I64 x.sq
  h : HK x.h
  tm : x.tm < U64
  sb : I64 x.sb
  mr : I64 x.mr
theorem St.len {x : St} (h : x.OK) : x.cells.length = 38 := by simp [St.cells, h.h.1]
theorem St.one (x : St) : ∀ u ∈ x.cells, u.oneCell' = true := by
  intro u hu
  simp only [St.cells, List.mem_append, List.mem_cons, List.not_mem_nil, or_false, List.mem_map] at hu
  rcases hu with (rfl | rfl | rfl) | ⟨y, -, rfl⟩ | rfl | rfl | rfl <;> rfl
def StR : Rep St := Rep.flat 38 (by decide) St.cells St.OK (fun a h => St.len h) (fun a _ => St.one a)
/-- a vote -/
structure Vt where
  kd : Int
  ep : Int
  rd : Int
  rp : Int
  h : List Int
  sb : Int
  mr : Int
abbrev Vt.cells (x : Vt) : List Value := [.int .i64 x.kd, .int .i64 x.ep, .int .i64 x.rd, .int .i64 x.rp] ++ (x.h.map bv ++ [.int .i64 x.sb, .int .i64 x.mr])
abbrev Vt.val (x : Vt) : Value := .agg x.cells.toArray
structure Vt.OK (x : Vt) : Prop where
  kd : I64 x.kd
  ep : I64 x.ep
  rd : I64 x.rd
  rp : I64 x.rp
  h : HK x.h
  sb : I64 x.sb
  mr : I64 x.mr
theorem Vt.len {x : Vt} (h : x.OK) : x.cells.length = 38 := by simp [Vt.cells, h.h.1]
theorem Vt.one (x : Vt) : ∀ u ∈ x.cells, u.oneCell' = true := by
  intro u hu
  simp only [Vt.cells, List.mem_append, List.mem_cons, List.not_mem_nil, or_false, List.mem_map] at hu
  rcases hu with (rfl | rfl | rfl | rfl) | ⟨y, -, rfl⟩ | rfl | rfl <;> rfl
def VtR : Rep Vt := Rep.flat 38 (by decide) Vt.cells Vt.OK (fun a h => Vt.len h) (fun a _ => Vt.one a)
/-- a denial -/
structure Dn where
  rp : Int
  ix : Int
  sb : Int
  mr : Int
abbrev Dn.cells (x : Dn) : List Value := [.int .i64 x.rp, .int .i64 x.ix, .int .i64 x.sb, .int .i64 x.mr]
abbrev Dn.val (x : Dn) : Value := .agg x.cells.toArray
structure Dn.OK (x : Dn) : Prop where
  rp : I64 x.rp
  ix : I64 x.ix
  sb : I64 x.sb
  mr : I64 x.mr
theorem Dn.len {x : Dn} (h : x.OK) : x.cells.length = 4 := by rfl
theorem Dn.one (x : Dn) : ∀ u ∈ x.cells, u.oneCell' = true := by
  intro u hu
  simp only [Dn.cells, List.mem_cons, List.not_mem_nil, or_false] at hu
  rcases hu with rfl | rfl | rfl | rfl <;> rfl
def DnR : Rep Dn := Rep.flat 4 (by decide) Dn.cells Dn.OK (fun a h => Dn.len h) (fun a _ => Dn.one a)
/-- an entry -/
structure En where
  cl : Int
  sq : Int
  h : List Int
  tm : Nat
abbrev En.cells (x : En) : List Value := [.int .i64 x.cl, .int .i64 x.sq] ++ (x.h.map bv ++ [.int .u64 (x.tm : Nat)])
abbrev En.val (x : En) : Value := .agg x.cells.toArray
structure En.OK (x : En) : Prop where
  cl : I64 x.cl
  sq : I64 x.sq
  h : HK x.h
  tm : x.tm < U64
theorem En.len {x : En} (h : x.OK) : x.cells.length = 35 := by simp [En.cells, h.h.1]
theorem En.one (x : En) : ∀ u ∈ x.cells, u.oneCell' = true := by
  intro u hu
  simp only [En.cells, List.mem_append, List.mem_cons, List.not_mem_nil, or_false, List.mem_map] at hu
  rcases hu with (rfl | rfl) | ⟨y, -, rfl⟩ | rfl <;> rfl
def EnR : Rep En := Rep.flat 35 (by decide) En.cells En.OK (fun a h => En.len h) (fun a _ => En.one a)

theorem RdR_keep {R : Nat → Prop} {N : Nat} {w w' : World} {v : Value} {bs : List Int} (h : RdR R N w v bs) (hk : ∀ p u, R p.block → w.cell? p = some u → w'.cell? p = some u) : RdR R N w' v bs :=
  ⟨⟨h.1.1, h.1.2.keepc fun h0 g hg p u hp hc => hk p u (hp ▸ h.2.1 h0 g hg) hc⟩, h.2⟩
theorem RdR_tight {R : Nat → Prop} {N : Nat} {w : World} {v : Value} {bs : List Int} (h : RdR R N w v bs) : RdR (fun k => R k ∧ k < w.heap.size) N w v bs :=
  ⟨h.1, fun h0 g hg => ⟨h.2.1 h0 g hg, h.1.2.lt (by decide) h0 hg⟩, h.2.2⟩
theorem Cm_one (c : Cm) : ∀ u ∈ c.cells, u.oneCell' = true := by
  intro u hu
  simp only [Cm.cells, List.mem_append, List.mem_cons, List.not_mem_nil, or_false, List.mem_map] at hu
  rcases hu with (rfl | rfl) | ⟨x, -, rfl⟩ | rfl | rfl | rfl <;> rfl
def CmR : Rep Cm := Rep.flat 37 (by decide) Cm.cells Cm.OK (fun a h => Cm.len h.2.1) (fun a _ => Cm_one a)
/-- a certificate -/
structure Ce where
  c : Cm
  l : List St
abbrev Ce.cells (x : Ce) (v_l : Value) : List Value := x.c.cells ++ [v_l]
def Ce.OK (x : Ce) : Prop := x.c.OK
def Ce.rd (R : Nat → Prop) (w : World) (cs : List Value) (x : Ce) : Prop := ∃ v_l, cs = x.cells v_l ∧ x.OK ∧ RdS StR R w v_l x.l
def CeR : Rep Ce where
  sz := 38
  pos := by decide
  rd := Ce.rd
  len h := by
    obtain ⟨v_l, rfl, hok, h0⟩ := h
    simp [Ce.cells, Cm.len hok.2.1]
  one h := by
    obtain ⟨v_l, rfl, hok, h0⟩ := h
    obtain ⟨_, _, e_l⟩ := h0.shape
    subst e_l
    intro u hu
    simp only [Ce.cells, List.mem_append, List.mem_cons, List.not_mem_nil, or_false, List.mem_map] at hu
    rcases hu with hu | rfl
    · exact Cm_one _ _ hu
    · rfl
  keep h hk := by
    obtain ⟨v_l, rfl, hok, h0⟩ := h
    exact ⟨_, rfl, hok, h0.keep hk⟩
  wid h hs := by
    obtain ⟨v_l, rfl, hok, h0⟩ := h
    exact ⟨_, rfl, hok, h0.widen hs⟩
  tight h := by
    obtain ⟨v_l, rfl, hok, h0⟩ := h
    exact ⟨_, rfl, hok, h0.tight⟩
/-- a promise -/
structure Pm where
  rp : Int
  ep : Int
  fl : Nat
  l : List Ce
  sb : Int
  mr : Int
abbrev Pm.cells (x : Pm) (v_l : Value) : List Value := [.int .i64 x.rp, .int .i64 x.ep, .int .u64 (x.fl : Nat), v_l, .int .i64 x.sb, .int .i64 x.mr]
def Pm.OK (x : Pm) : Prop := I64 x.rp ∧ I64 x.ep ∧ x.fl < U64 ∧ I64 x.sb ∧ I64 x.mr
def Pm.rd (R : Nat → Prop) (w : World) (cs : List Value) (x : Pm) : Prop := ∃ v_l, cs = x.cells v_l ∧ x.OK ∧ RdS CeR R w v_l x.l
def PmR : Rep Pm where
  sz := 6
  pos := by decide
  rd := Pm.rd
  len h := by
    obtain ⟨v_l, rfl, hok, h0⟩ := h
    rfl
  one h := by
    obtain ⟨v_l, rfl, hok, h0⟩ := h
    obtain ⟨_, _, e_l⟩ := h0.shape
    subst e_l
    intro u hu
    simp only [Pm.cells, List.mem_append, List.mem_cons, List.not_mem_nil, or_false, List.mem_map] at hu
    rcases hu with rfl | rfl | rfl | rfl | rfl | rfl <;> rfl
  keep h hk := by
    obtain ⟨v_l, rfl, hok, h0⟩ := h
    exact ⟨_, rfl, hok, h0.keep hk⟩
  wid h hs := by
    obtain ⟨v_l, rfl, hok, h0⟩ := h
    exact ⟨_, rfl, hok, h0.widen hs⟩
  tight h := by
    obtain ⟨v_l, rfl, hok, h0⟩ := h
    exact ⟨_, rfl, hok, h0.tight⟩
/-- an opening -/
structure Op where
  ix : Int
  pl : List Int
  nc : List Int
abbrev Op.cells (x : Op) (v_pl : Value) : List Value := [.int .i64 x.ix, v_pl] ++ x.nc.map bv
def Op.OK (x : Op) : Prop := I64 x.ix ∧ HK x.nc
def Op.rd (R : Nat → Prop) (w : World) (cs : List Value) (x : Op) : Prop := ∃ v_pl, cs = x.cells v_pl ∧ x.OK ∧ RdR R x.pl.length w v_pl x.pl
def OpR : Rep Op where
  sz := 34
  pos := by decide
  rd := Op.rd
  len h := by
    obtain ⟨v_pl, rfl, hok, h0⟩ := h
    simp [Op.cells, hok.2.1]
  one h := by
    obtain ⟨v_pl, rfl, hok, h0⟩ := h
    obtain ⟨_, _, e_pl⟩ := h0.shape
    subst e_pl
    intro u hu
    simp only [Op.cells, List.mem_append, List.mem_cons, List.not_mem_nil, or_false, List.mem_map] at hu
    rcases hu with (rfl | rfl) | ⟨y, -, rfl⟩ <;> rfl
  keep h hk := by
    obtain ⟨v_pl, rfl, hok, h0⟩ := h
    exact ⟨_, rfl, hok, RdR_keep h0 hk⟩
  wid h hs := by
    obtain ⟨v_pl, rfl, hok, h0⟩ := h
    exact ⟨_, rfl, hok, h0.widen hs (Nat.le_refl _)⟩
  tight h := by
    obtain ⟨v_pl, rfl, hok, h0⟩ := h
    exact ⟨_, rfl, hok, RdR_tight h0⟩
/-- a tombstone -/
structure Tb where
  ix : Int
  l : List Dn
abbrev Tb.cells (x : Tb) (v_l : Value) : List Value := [.int .i64 x.ix, v_l]
def Tb.OK (x : Tb) : Prop := I64 x.ix
def Tb.rd (R : Nat → Prop) (w : World) (cs : List Value) (x : Tb) : Prop := ∃ v_l, cs = x.cells v_l ∧ x.OK ∧ RdS DnR R w v_l x.l
def TbR : Rep Tb where
  sz := 2
  pos := by decide
  rd := Tb.rd
  len h := by
    obtain ⟨v_l, rfl, hok, h0⟩ := h
    rfl
  one h := by
    obtain ⟨v_l, rfl, hok, h0⟩ := h
    obtain ⟨_, _, e_l⟩ := h0.shape
    subst e_l
    intro u hu
    simp only [Tb.cells, List.mem_append, List.mem_cons, List.not_mem_nil, or_false, List.mem_map] at hu
    rcases hu with rfl | rfl <;> rfl
  keep h hk := by
    obtain ⟨v_l, rfl, hok, h0⟩ := h
    exact ⟨_, rfl, hok, h0.keep hk⟩
  wid h hs := by
    obtain ⟨v_l, rfl, hok, h0⟩ := h
    exact ⟨_, rfl, hok, h0.widen hs⟩
  tight h := by
    obtain ⟨v_l, rfl, hok, h0⟩ := h
    exact ⟨_, rfl, hok, h0.tight⟩
/-- a batch -/
structure Ba where
  ep : Int
  tm : Nat
  ps : List Pm
  os : List Op
  ts : List Tb
abbrev Ba.cells (x : Ba) (v_ps v_os v_ts : Value) : List Value := [.int .i64 x.ep, .int .u64 (x.tm : Nat), v_ps, v_os, v_ts]
def Ba.OK (x : Ba) : Prop := I64 x.ep ∧ x.tm < U64
def Ba.rd (R : Nat → Prop) (w : World) (cs : List Value) (x : Ba) : Prop := ∃ v_ps v_os v_ts, cs = x.cells v_ps v_os v_ts ∧ x.OK ∧ RdS PmR R w v_ps x.ps ∧ RdS OpR R w v_os x.os ∧ RdS TbR R w v_ts x.ts
def BaR : Rep Ba where
  sz := 5
  pos := by decide
  rd := Ba.rd
  len h := by
    obtain ⟨v_ps, v_os, v_ts, rfl, hok, h0, h1, h2⟩ := h
    rfl
  one h := by
    obtain ⟨v_ps, v_os, v_ts, rfl, hok, h0, h1, h2⟩ := h
    obtain ⟨_, _, e_ps⟩ := h0.shape
    obtain ⟨_, _, e_os⟩ := h1.shape
    obtain ⟨_, _, e_ts⟩ := h2.shape
    subst e_ps e_os e_ts
    intro u hu
    simp only [Ba.cells, List.mem_append, List.mem_cons, List.not_mem_nil, or_false, List.mem_map] at hu
    rcases hu with rfl | rfl | rfl | rfl | rfl <;> rfl
  keep h hk := by
    obtain ⟨v_ps, v_os, v_ts, rfl, hok, h0, h1, h2⟩ := h
    exact ⟨_, _, _, rfl, hok, h0.keep hk, h1.keep hk, h2.keep hk⟩
  wid h hs := by
    obtain ⟨v_ps, v_os, v_ts, rfl, hok, h0, h1, h2⟩ := h
    exact ⟨_, _, _, rfl, hok, h0.widen hs, h1.widen hs, h2.widen hs⟩
  tight h := by
    obtain ⟨v_ps, v_os, v_ts, rfl, hok, h0, h1, h2⟩ := h
    exact ⟨_, _, _, rfl, hok, h0.tight, h1.tight, h2.tight⟩
/-- a proposal -/
structure Pr where
  ep : Int
  rn : Int
  vl : Int
  rp : Int
  ba : Ba
  sb : Int
  mr : Int
abbrev Pr.cells (x : Pr) (v_ps v_os v_ts : Value) : List Value := [.int .i64 x.ep, .int .i64 x.rn, .int .i64 x.vl, .int .i64 x.rp, .int .i64 x.ba.ep, .int .u64 (x.ba.tm : Nat), v_ps, v_os, v_ts, .int .i64 x.sb, .int .i64 x.mr]
def Pr.OK (x : Pr) : Prop := I64 x.ep ∧ I64 x.rn ∧ I64 x.vl ∧ I64 x.rp ∧ x.ba.OK ∧ I64 x.sb ∧ I64 x.mr
def Pr.rd (R : Nat → Prop) (w : World) (cs : List Value) (x : Pr) : Prop := ∃ v_ps v_os v_ts, cs = x.cells v_ps v_os v_ts ∧ x.OK ∧ RdS PmR R w v_ps x.ba.ps ∧ RdS OpR R w v_os x.ba.os ∧ RdS TbR R w v_ts x.ba.ts
def PrR : Rep Pr where
  sz := 11
  pos := by decide
  rd := Pr.rd
  len h := by
    obtain ⟨v_ps, v_os, v_ts, rfl, hok, h0, h1, h2⟩ := h
    rfl
  one h := by
    obtain ⟨v_ps, v_os, v_ts, rfl, hok, h0, h1, h2⟩ := h
    obtain ⟨_, _, e_ps⟩ := h0.shape
    obtain ⟨_, _, e_os⟩ := h1.shape
    obtain ⟨_, _, e_ts⟩ := h2.shape
    subst e_ps e_os e_ts
    intro u hu
    simp only [Pr.cells, List.mem_append, List.mem_cons, List.not_mem_nil, or_false, List.mem_map] at hu
    rcases hu with rfl | rfl | rfl | rfl | rfl | rfl | rfl | rfl | rfl | rfl | rfl <;> rfl
  keep h hk := by
    obtain ⟨v_ps, v_os, v_ts, rfl, hok, h0, h1, h2⟩ := h
    exact ⟨_, _, _, rfl, hok, h0.keep hk, h1.keep hk, h2.keep hk⟩
  wid h hs := by
    obtain ⟨v_ps, v_os, v_ts, rfl, hok, h0, h1, h2⟩ := h
    exact ⟨_, _, _, rfl, hok, h0.widen hs, h1.widen hs, h2.widen hs⟩
  tight h := by
    obtain ⟨v_ps, v_os, v_ts, rfl, hok, h0, h1, h2⟩ := h
    exact ⟨_, _, _, rfl, hok, h0.tight, h1.tight, h2.tight⟩
end Go.Proofs.Ytknpapcfhnhheaa
