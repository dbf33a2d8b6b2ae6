/- Building a struct or an array out of parts; bytes as a string. No program here. -/
import Derived.Test.YtknpapcfhnhheaaVal3
import Derived.Test.YtknpapcfhnhheaaBytes
import Derived.Laws.Tables
import Derived.Great.FillDense
set_option linter.unusedVariables false
namespace Go.Gv
open Go Go.RowKit

section
variable {P : Program} {o : Oper} {a : Act} {w : World}
def baseOf (P : Program) (t : TypeId) : Option (List Value × List (Nat × Nat)) := match P.info? t, P.underlying t with
  | some it, some (.struct fields) => match it.zero, fields.toList.mapM (fun f => (P.info? f.type).map fun i => (f.offset, i.size)) with
    | some z, some places => some (z.cells.toList, places)
    | _, _ => none
  | _, _ => none
/-- the parts laid into a struct's zero -/
def laid (places : List (Nat × Nat)) : List Value → List (Nat × Value) → Option (List Value)
  | z, [] => some z
  | z, (i, v) :: r => match places[i]? with
    | none => none
    | some (off, size) => if v.cells.size ≠ size ∨ z.length < off + size then none else laid places (z.take off ++ v.cells.toList ++ z.drop (off + size)) r
theorem foldl_lay (off : Nat) (l : List Value) (z : List Value) (h : off + l.length ≤ z.length) : (l.zipIdx.foldl (fun cs (x : Value × Nat) => cs.setIfInBounds (off + x.2) x.1) z.toArray) = (z.take off ++ l ++ z.drop (off + l.length)).toArray := by
  obtain ⟨h1, h2⟩ := Go.Great.foldl_set off l 0 z.toArray
  apply Array.ext_getElem?
  intro k
  rw [h2 k]
  simp only [List.getElem?_toArray, List.size_toArray, Nat.add_zero]
  by_cases hk : off ≤ k ∧ k < off + l.length ∧ k < z.length
  · rw [if_pos hk, List.append_assoc, List.getElem?_append_right (by simp; omega), List.length_take, Nat.min_eq_left (by omega), List.getElem?_append_left (by omega)]
  · rw [if_neg hk]
    by_cases hlt : k < off
    · rw [List.append_assoc, List.getElem?_append_left (by simp; omega), List.getElem?_take_of_lt hlt]
    · rw [List.getElem?_append_right (by simp; omega), List.getElem?_drop]
      congr 1
      simp
      omega
theorem fill_laid {places : List (Nat × Nat)} : ∀ (parts : List (Nat × Value)) (z : List Value) {r : List Value}, laid places z parts = some r → Instr.fill (places.toArray[·]?) z.toArray parts = some r.toArray
  | [], z, r, h => by unfold laid at h; cases h; rfl
  | (i, v) :: ps, z, r, h => by
    unfold laid at h
    unfold Instr.fill
    rw [List.getElem?_toArray]
    cases hp : places[i]? with
    | none => rw [hp] at h; cases h
    | some os =>
      obtain ⟨off, size⟩ := os
      rw [hp] at h
      simp only at h
      split at h
      · cases h
      · rename_i hc
        have hc1 : v.cells.size = size := by omega
        have hc2 : off + size ≤ z.length := by omega
        simp only
        rw [if_neg (by simp [hc1, hc2])]
        have e := foldl_lay off v.cells.toList z (by simpa [hc1] using hc2)
        rw [← Array.toList_zipIdx] at e
        simp only [Array.foldl_toList] at e
        rw [e, show v.cells.toList.length = size by simpa using hc1]
        exact fill_laid ps _ h
theorem ex_build {t : TypeId} {ps : Array (Nat × Operand)} (ho : o.op = .build t ps) {z : List Value} {places : List (Nat × Nat)} (hb : baseOf P t = some (z, places)) {parts : List (Nat × Value)} (hp : (ps.map fun (i, x) => (i, a.eval x)).toList = parts) {r : List Value} (hr : laid places z parts = some r) : (execOp a.eval o).run P w = .ok (.value (.agg r.toArray)) w := by
  have h : P.built t parts = some r.toArray := by
    unfold baseOf at hb
    unfold Program.built
    cases hit : P.info? t with
    | none => rw [hit] at hb; cases hb
    | some it =>
      cases hu : P.underlying t with
      | none => rw [hit, hu] at hb; cases hb
      | some d =>
        rw [hit, hu] at hb
        cases d <;> try (cases hb; done)
        case struct fields =>
          simp only at hb ⊢
          cases hz : it.zero with
          | none => rw [hz] at hb; cases hb
          | some zv =>
            rw [hz] at hb
            try simp only at hb
            try simp only
            cases hpl : fields.toList.mapM (fun f => (P.info? f.type).map fun i => (f.offset, i.size)) with
            | none => rw [hpl] at hb; cases hb
            | some pl =>
              rw [hpl] at hb
              simp only [Option.some.injEq, Prod.mk.injEq] at hb
              obtain ⟨rfl, rfl⟩ := hb
              try simp only
              have := fill_laid _ _ hr
              simpa using this
  have hrun := run_build (P := P) w t (ps.map fun (i, x) => (i, a.eval x)) r.toArray (by rw [hp]; exact h)
  unfold execOp
  simp only [ho, Sem.run_bind, hrun, Result.andThen_ok, Sem.run_pure]
theorem ex_conv {src dst : TypeId} {x : Operand} {u v : Value} (ho : o.op = .convert src dst x) (hx : a.eval x = u) (hr : (convert src dst u).run P w = .ok v w) : (execOp a.eval o).run P w = .ok (.value v) w := by
  unfold execOp
  simp [ho, hx, hr]
theorem ex_lenM {κ ν : Type} {enc : κ → Value} {val : ν → Value} {ok : κ → Prop} {l : List (κ × ν)} {b : Nat} {t k e : TypeId} {m : Operand} (ho : o.op = Op.call { callee := Callee.builtin Builtin.len, args := #[m], argTypes := #[t] }) (hm : a.eval m = .map (some b)) (h : MapIs w b enc val ok l) (ht : P.underlying t = some (.map k e)) : (execOp a.eval o).run P w = .ok (.value (.int .i64 l.length)) w := by
  simp [execOp, ho, resolve, invoke, builtin, hm, h.len ht o.type, Result.andThen]
theorem ex_lenS {t e : TypeId} {m : Operand} {ao : Option Addr} {n cap : Nat} (ho : o.op = Op.call { callee := Callee.builtin Builtin.len, args := #[m], argTypes := #[t] }) (hm : a.eval m = .slice ao n cap) (ht : P.underlying t = some (.slice e)) : (execOp a.eval o).run P w = .ok (.value (.int .i64 n)) w := by
  simp [execOp, ho, resolve, invoke, builtin, hm, Builtin.len_, run_underlying ht, goInt, Result.andThen]
theorem run_add_i {t : TypeId} {k : IntKind} (x y : Int) (h : P.underlying t = some (.int k)) : (binOp .add t (.int k x) (.int k y)).run P w = .ok (.int k (k.wrap (x + y))) w := by
  simp [binOp, Op.intArith]
theorem run_sub_i {t : TypeId} {k : IntKind} (x y : Int) (h : P.underlying t = some (.int k)) : (binOp .sub t (.int k x) (.int k y)).run P w = .ok (.int k (k.wrap (x - y))) w := by
  simp [binOp, Op.intArith]
theorem guard_arith {op : BinOp} {t : TypeId} {k : IntKind} (x y : Operand) (u v : Int) (w : World) : (eqGuard op t x y (.int k u) (.int k v)).run P w = .ok () w := guard_ints op x y u v w
/-- a new variable, and what is stored into it -/
def AlSt (B : Nat) (T : TypeId) (z c : List Value) : Nat → List Value → World → Prop := fun k t w => B ≤ w.heap.size ∧ match k with
  | 0 => True
  | 1 => ∃ q, t[0]? = some (.pointer (some ⟨q, 0, none⟩)) ∧ B ≤ q ∧ Cs w q z.toArray T
  | _ => ∃ q, t[0]? = some (.pointer (some ⟨q, 0, none⟩)) ∧ B ≤ q ∧ Cs w q c.toArray T
theorem AlSt_still {B : Nat} {T : TypeId} {z c : List Value} : ∀ k t w w', AlSt B T z c k t w → Mod (fun _ => False) w w' → AlSt B T z c k t w' := by
  rintro k t w w' ⟨h0, h⟩ hm
  refine ⟨Nat.le_trans h0 hm.size, ?_⟩
  match k, h with
  | 0, h => trivial
  | 1, ⟨q, h1, h2, h3⟩ => exact ⟨q, h1, h2, h3.mod hm (fun h => h)⟩
  | k + 2, ⟨q, h1, h2, h3⟩ => exact ⟨q, h1, h2, h3.mod hm (fun h => h)⟩
theorem AlSt_new {B : Nat} {T : TypeId} {z c : List Value} {t : List Value} {w : World} (h : ByLen (AlSt B T z c) t w) (hl : t.length = 0) : ByLen (AlSt B T z c) (t ++ [.pointer (some ⟨w.heap.size, 0, none⟩)]) (w.alloc (.cells z.toArray T)) := by
  obtain rfl := List.eq_nil_of_length_eq_zero hl
  exact ByLen.on rfl ⟨by simpa using Nat.le_trans h.1 (Nat.le_succ _), w.heap.size, rfl, h.1, Cs.new _ _ _⟩
theorem AlSt_put {B : Nat} {T : TypeId} {z c : List Value} {t : List Value} {w : World} (h : ByLen (AlSt B T z c) t w) (hl : t.length = 1) : ∃ q, t[0]? = some (.pointer (some ⟨q, 0, none⟩)) ∧ B ≤ q ∧ Cs w q z.toArray T ∧ (z.length = c.length → ByLen (AlSt B T z c) (t ++ [undef]) (w.setRow q (lay z.toArray 0 c))) := by
  obtain ⟨h0, q, h1, h2, h3⟩ := h.at hl
  refine ⟨q, h1, h2, h3, fun hzc => ByLen.on hl ⟨by simpa using h0, q, ?_, h2, ?_⟩⟩
  · rw [List.getElem?_append_left (by omega)]; exact h1
  · rw [lay_whole _ _ (by simpa using hzc)]; exact setRow_Cs h3
end
end Go.Gv
namespace Go.Proofs.Ytknpapcfhnhheaa
open Go Go.RowKit Go.Gv
theorem strOf_nil : strOfNums [] = ByteArray.empty := rfl
theorem bytes_string {w : World} {v : Value} {bs : List Int} (h : RdB w v bs) : (convert 38 9 v).run Try.prog w = .ok (.string (strOfNums bs)) w := by
  rcases h.form with ⟨rfl, ao, cap, rfl, hc⟩ | ⟨g, o, cap, h0, rfl, h1, h2, h3⟩
  · rw [run_convert_bytes_string w _ _ _ _ 0 cap Try.underlying38 Try.underlying5 Try.underlying9]
    cases ao <;> simp [Conv.bytesToString, loadCells]
    all_goals rfl
  · exact run_convert_bytes_arg w 38 5 Try.underlying38 Try.underlying5 g o bs.length cap bs rfl (fun i hi => by rw [h3 i hi]; simp [List.getD, List.getElem?_eq_getElem hi]) 9 Try.underlying9
end Go.Proofs.Ytknpapcfhnhheaa
