/- Bytes in regions told step by step: appends, rows of rows, strings as bytes, writers' ends. -/
import Derived.Test.YtknpapcfhnhheaaQ2
import Derived.Test.YtknpapcfhnhheaaJoin
import Derived.Test.YtknpapcfhnhheaaReg
import Derived.Lib.ConvBytes
set_option maxRecDepth 100000
set_option linter.unusedVariables false
namespace Go.Proofs.Ytknpapcfhnhheaa
open Go Go.RowKit Go.Gv

section
variable {ops : Array Oper} {Q : Exit → Act → World → Prop} {i : Nat} {o : Oper} {a : Act} {w : World} {KQ : Value → World → Prop} {B : Nat} {S0 Z : Nat → Prop} {t : List Value} {l : List QPred}
/-- one of the chain appends bytes -/
theorem qc_appR {s x : Operand} {R R' : Nat → Prop} {N M : Nat} {v xv : Value} {bs new : List Int} (ho : ops[i]? = some o) (hw : Region.wanted o (yielded ops a.tmps) = true) (hop : o.op = .call { callee := .builtin .append, args := #[s, x], argTypes := #[38, 38] })
    (hs : a.eval s = v) (hx : a.eval x = xv) (hown : OwR R N w v bs) (hrd : RdR R' M w xv new) (hroom : (bs ++ new).length ≤ 900000)
    (h : ∀ ao cap w', OwR (fun k => R k ∨ New w w' k) 900000 w' (.slice ao (bs.length + new.length) cap) (bs ++ new) → Mod R w w' → KQ (.slice ao (bs.length + new.length) cap) w') : wpOp Try.prog ops Q i (fun a' w' => ∃ v, a' = a.put o.dst v ∧ KQ v w') a w := by
  obtain ⟨i0, hi, hz0, hz1, hz2⟩ := info_parts info_u8
  have hlen : bs.length + new.length ≤ 900000 := by simpa using hroom
  obtain ⟨ao, cap, w', hr, h1, h2, h3⟩ := run_append (P := Try.prog) w 38 o.type 5 i0 (.int .u8 0) 1 1 Try.underlying38 hi hz0 hz1 hz2 rfl (by decide) IsB_zero v _ _ hown.1 xv new.length (new.map bv) hrd.1.2 (isB_all hrd.1.1) (ints_oneCell .u8 new) (by omega) (by rw [maxLen_val]; omega)
  refine qc_run ho hw (ex_append hop hs hx hr) (h ao cap w' ⟨?_, (fun g hg => ?_), hroom⟩ (h2.mono (fun k _ hk => hown.2.1 k hk.symm)))
  · unfold OwnB
    rw [List.length_append, List.map_append]
    exact h1
  · rcases h3 with h3 | ⟨k, h3, hk⟩
    · exact .inl (hown.2.1 g (h3 ▸ hg))
    · rw [h3] at hg
      obtain rfl : k = g := by simpa using hg
      exact .inr ⟨hk, Own.lt h1 h3⟩
/-- one of the chain makes a row of rows -/
theorem qc_rows {ts : TypeId} {n : Nat} {parts : Array (Nat × Operand)} (ho : ops[i]? = some o) (hw : Region.wanted o (yielded ops a.tmps) = true) (hop : o.op = .buildSlice ts n parts) (hu : Try.prog.underlying ts = some (.slice 38)) (hn : n ≠ 0 ∧ n ≤ 1000) {C : Array Value}
    (hf : Instr.fill (fun i => some (i * 1, 1)) ((Array.range (n * 1)).map (#[Value.slice none 0 0][· % 1]!)) (parts.map fun (i, x) => (i, a.eval x)).toList = some C)
    (h : ∀ w', Cs w' w.heap.size C 38 → Mod (fun _ => False) w w' → KQ (.slice (some ⟨w.heap.size, 0, none⟩) n n) w') : wpOp Try.prog ops Q i (fun a' w' => ∃ v, a' = a.put o.dst v ∧ KQ v w') a w :=
  qc_run ho hw (ex_buildSl hop hu (by kernel_rfl) hn hf) (h _ (Cs.new _ _ _) ((Mod.refl _ _).alloc _))
theorem Join_Q {g n : Nat} {C : Array Value} {e : TypeId} (hc : Cs w g C e) (rs : List (Value × List Int)) (hC : C = (rs.map (·.1)).toArray) (hn : n = rs.length) (h : ∀ p ∈ rs, RdB w p.1 p.2) (hl2 : rs.length ≤ 1000) {bs : List Int} (hb : flat rs = bs) (hl : bs.length ≤ 900000) :
    Calls Try.prog 68 #[.slice (some ⟨g, 0, none⟩) n n] w fun e w' => ∃ v', e = .returned v' ∧ OwR (New w w') 900000 w' v' bs ∧ Mod (fun _ => False) w w' := by
  subst hb
  have hj : RdJ w (.slice (some ⟨g, 0, none⟩) n n) rs := by
    refine ⟨?_, h⟩
    subst hn
    refine Rd.mk (Nat.le_refl _) (by rw [maxLen_val]; omega) (by simp) fun j y hy => ?_
    rw [Nat.zero_add, hc.cell, hC]
    simpa using hy
  exact (Join_any _ rs w hj hl2 hl).mono fun e w' ⟨v', he, ho, hm⟩ => ⟨v', he, ho.widen (fun _ h => h) hl, hm⟩
theorem ql.rd {bs : List Int} {v : Value} (hb : Bytes bs) (h : ql B 5 (bs.map bv).toArray Z t v w) (hl : bs.length ≤ 1000000) : ∃ R : Nat → Prop, (∀ j, R j → B ≤ j ∧ ¬ Z j ∧ j < w.heap.size) ∧ RdR R bs.length w v bs := by
  obtain ⟨g, rfl, hB, hZ, m, h4⟩ := h
  have e : (bs.map bv).toArray.size = bs.length := by simp
  refine ⟨fun k => k = g, fun j hj => by subst hj; exact ⟨hB, hZ, (Array.getElem?_eq_some_iff.1 h4).1⟩, ⟨hb, ?_⟩, fun _ k hk => by cases hk; rfl, Nat.le_refl _⟩
  rw [e]
  refine Rd.mk (Nat.le_refl _) (by rw [maxLen_val]; omega) (by simp) fun j y hy => ?_
  rw [Nat.zero_add]
  simp only [World.cell?, h4]
  simpa using hy
/-- a string's bytes -/
def bytesOf (s : ByteArray) : List Int := s.data.toList.map fun b => (b.toNat : Int)
theorem bytesOf_len (s : ByteArray) : (bytesOf s).length = s.size := by unfold bytesOf; rw [List.length_map]; rfl
theorem bytesOf_ok (s : ByteArray) : Bytes (bytesOf s) := by
  intro x hx
  obtain ⟨b, -, rfl⟩ := List.mem_map.1 hx
  have := b.toNat_lt
  omega
theorem str_bytes (w : World) (s : ByteArray) (hs : s.size ≤ 1000000) : ∃ cap w', (convert 9 38 (.string s)).run Try.prog w = .ok (.slice (some ⟨w.heap.size, 0, none⟩) s.size cap) w' ∧ RdR (fun k => k = w.heap.size) 1000000 w' (.slice (some ⟨w.heap.size, 0, none⟩) s.size cap) (bytesOf s) ∧ Mod (fun _ => False) w w' ∧ w'.heap.size = w.heap.size + 1 := by
  refine ⟨_, _, Lib.run_convert_string_bytes (P := Try.prog) w _ _ 5 s Try.underlying9 Try.underlying38 Try.underlying5, ⟨⟨bytesOf_ok s, ?_⟩, (fun _ g hg => by cases hg; rfl), by rw [bytesOf_len]; exact hs⟩, ⟨rfl, rfl, rfl, by rw [Lib.bytesWorld_size]; omega, fun k hk _ => Lib.bytesWorld_at_old w _ s k hk⟩, Lib.bytesWorld_size w _ s⟩
  rw [bytesOf_len]
  refine Rd.mk (grownCap_ge w s.size 0 _) (grownCap_le_maxLen w s.size 0 _ (by rw [maxLen_val]; omega)) (by rw [List.length_map, bytesOf_len, Nat.mul_one]) fun j u hu => ?_
  rw [Nat.zero_add]
  have hj : j < s.size := by have := (List.getElem?_eq_some_iff.1 hu).1; rwa [List.length_map, bytesOf_len] at this
  rw [Lib.bytesWorld_cell w _ s j hj, ← hu]
  simp only [bytesOf, List.map_map, List.getElem?_map]
  have hj2 : j < s.data.toList.length := by rw [Array.length_toList]; exact hj
  rw [List.getElem?_eq_getElem hj2]
  simp only [Option.map_some, Function.comp, List.getD, List.getElem?_eq_getElem hj2, Option.getD_some]
theorem ex_convW {P : Program} {o : Oper} {a : Act} {w w' : World} {src dst : TypeId} {x : Operand} {u v : Value} (ho : o.op = .convert src dst x) (hx : a.eval x = u) (hr : (convert src dst u).run P w = .ok v w') : (execOp a.eval o).run P w = .ok (.value v) w' := by
  unfold execOp; simp [ho, hx, hr]
/-- beside the chain a string is made bytes -/
theorem qe_strB {x : Operand} {s : ByteArray} (ho : ops[i]? = some o) (hw : Region.wanted o (yielded ops a.tmps) = true) (hop : o.op = .convert 9 38 x) (hx : a.eval x = .string s) (hs : s.size ≤ 1000000) (hB : B ≤ w.heap.size) (hZ : ∀ j, Z j → j < w.heap.size)
    (hv : ∀ v w', qr B S0 (fun R w v => RdR R 1000000 w v (bytesOf s)) Z t v w' → (l.getD i qa) Z t v w') : wpOp Try.prog ops Q i (QJ B l Z i o t a w) a w := by
  obtain ⟨cap, w', hr, h1, h2, h3⟩ := str_bytes w s hs
  refine qe_run ho hw (ex_convW hop hx hr) (QE.still h2) (hv _ _ ⟨fun k => k = w.heap.size, fun j hj => ?_, h1⟩)
  subst hj
  exact ⟨by omega, fun h => by omega, fun h => by have := hZ _ h.2; omega⟩
theorem rdR_cells {bs : List Int} {N : Nat} : ∀ R w w' v, RdR R N w v bs → (∀ p u, R p.block → w.cell? p = some u → w'.cell? p = some u) → RdR R N w' v bs :=
  fun R w w' v h hk => ⟨⟨h.1.1, h.1.2.keepc fun h0 g hg p u hp hc => hk p u (hp ▸ h.2.1 h0 g hg) hc⟩, h.2⟩
theorem NewWriter_Q (w : World) : Calls Try.prog 44 #[] w fun e w' => ∃ b, e = .returned (.pointer (some ⟨b, 0, none⟩)) ∧ WrR (New w w') 900000 w' b [] ∧ Mod (fun _ => False) w w' :=
  (NewWriter_R w).mono fun e w' ⟨b, he, h, hm⟩ => ⟨b, he, h.widen (fun _ h => h) (by omega), hm⟩
theorem WBytes_Q {R : Nat → Prop} {b : Nat} {bs : List Int} {w : World} (hW : WrR R 900000 w b bs) :
    Calls Try.prog 50 #[.pointer (some ⟨b, 0, none⟩)] w fun e w' => ∃ v', e = .returned v' ∧ OwR (New w w') 900000 w' v' bs ∧ Mod (fun _ => False) w w' := WBytes_R hW (by omega)
end
end Go.Proofs.Ytknpapcfhnhheaa
