/- Equality of commitments, names and signatures. -/
import Derived.Test.YtgnmdnmmemdemaaSet0
set_option maxRecDepth 100000
namespace Go.Proofs.Ytgnmdnmmemdemaa
open Go Go.RowKit Go.Gv
theorem eqIn_name (w : World) (d : Nat) (a b a' b' : Int) :
    (Op.equalIn (d + 2) 26 (.agg #[.int .i64 a, .int .i64 b]) (.agg #[.int .i64 a', .int .i64 b'])).run Try.prog w = .ok (a == a' && b == b') w := by
  have hs : Try.prog.stoodInHeld 26 = false := by kernel_rfl
  rw [Op.equalIn]
  simp [run_underlying Try.underlying26, run_program, hs, part, isAgg, run_underlying Try.underlying3, run_equalIn_int]
  cases h1 : a == a' <;> cases h2 : b == b' <;> simp_all
theorem eqIn_sig (w : World) (d : Nat) (a b a' b' : Int) :
    (Op.equalIn (d + 2) 30 (.agg #[.int .i64 a, .int .i64 b]) (.agg #[.int .i64 a', .int .i64 b'])).run Try.prog w = .ok (a == a' && b == b') w := by
  have hs : Try.prog.stoodInHeld 30 = false := by kernel_rfl
  rw [Op.equalIn]
  simp [run_underlying Try.underlying30, run_program, hs, part, isAgg, run_underlying Try.underlying3, run_equalIn_int]
  cases h1 : a == a' <;> cases h2 : b == b' <;> simp_all
theorem size_run {P : Program} {T : TypeId} {n : Nat} (h : (P.info? T).map (·.size) = some n) (w : World) : (sizeOf T).run P w = .ok n w := by
  cases hq : P.info? T with
  | none => rw [hq] at h; cases h
  | some i => rw [hq] at h; simp [sizeOf, typeInfo, hq]; exact Option.some.inj h
theorem part_agg {P : Program} {T : TypeId} {n : Nat} {d : TypeDesc} (hu : P.underlying T = some d) (hd : aggDesc d = true) (h : (P.info? T).map (·.size) = some n) (cs : Array Value) (off : Nat) (w : World) : (part T cs off).run P w = .ok (.agg (cs.extract off (off + n))) w := by
  have hagg : (isAgg T).run P w = .ok true w := by
    unfold isAgg
    rw [Sem.run_bind, run_underlying hu w]
    cases d <;> simp_all [aggDesc]
  simp [part, hagg, size_run h]
theorem part_one {P : Program} {T : TypeId} {d : TypeDesc} (hu : P.underlying T = some d) (hd : aggDesc d = false) {cs : Array Value} {off : Nat} {v : Value} (hv : cs[off]? = some v) (w : World) : (part T cs off).run P w = .ok v w := by
  have hagg : (isAgg T).run P w = .ok false w := by
    unfold isAgg
    rw [Sem.run_bind, run_underlying hu w]
    cases d <;> simp_all [aggDesc]
  simp [part, hagg, hv]
theorem eqIn_struct_true {P : Program} {T : TypeId} {fs : Array Field} (w : World) (d : Nat) (hu : P.underlying T = some (.struct fs)) (hs : P.stoodInHeld T = false) (xs ys : Array Value)
    (h : ∀ f ∈ fs.toList, f.name ≠ "_" ∧ ∃ x y, (part f.type xs f.offset).run P w = .ok x w ∧ (part f.type ys f.offset).run P w = .ok y w ∧ (Op.equalIn d f.type x y).run P w = .ok true w) :
    (Op.equalIn (d + 1) T (.agg xs) (.agg ys)).run P w = .ok true w := by
  obtain ⟨l⟩ := fs
  simp only at h
  rw [Op.equalIn]
  simp only [Sem.run_bind, run_underlying hu, Result.andThen_ok, run_program, hs, Bool.false_eq_true, if_false, List.forIn_toArray]
  clear hu
  induction l with
  | nil => simp
  | cons f l ih =>
    obtain ⟨hn, x, y, p1, p2, q⟩ := h f (by simp)
    simp only [List.forIn_cons, Sem.run_bind, ne_eq, hn, not_false_eq_true, if_true, p1, p2, q, Result.andThen_ok, Bool.not_true, Bool.false_eq_true, if_false, Sem.run_pure]
    exact ih (fun f hf => h f (by simp [hf]))
theorem eqIn_commit (w : World) (d : Nat) (a b l s m : Int) (h : List Int) (hl : h.length = 32) :
    (Op.equalIn (d + 3) 32 (.agg ([Value.int .i64 a, .int .i64 b] ++ (h.map bv ++ [Value.int .i64 l, Value.int .i64 s, Value.int .i64 m])).toArray) (.agg ([Value.int .i64 a, .int .i64 b] ++ (h.map bv ++ [Value.int .i64 l, Value.int .i64 s, Value.int .i64 m])).toArray)).run Try.prog w = .ok true w := by
  have hs : Try.prog.stoodInHeld 32 = false := by kernel_rfl
  generalize hA : ([Value.int .i64 a, .int .i64 b] ++ (h.map bv ++ [Value.int .i64 l, Value.int .i64 s, Value.int .i64 m])).toArray = A
  have hsz : A.size = 37 := by rw [← hA]; simp [hl]
  have p1 := part_agg (n := 2) Try.underlying26 rfl (by kernel_rfl) A 0 w
  have p2 := part_agg (n := 32) Try.underlying28 rfl (by kernel_rfl) A 2 w
  have p4 := part_agg (n := 2) Try.underlying30 rfl (by kernel_rfl) A 35 w
  have far : ∀ j, A[34 + j]? = ([Value.int .i64 l, .int .i64 s, .int .i64 m] : List Value)[j]? := by
    intro j
    rw [← hA]
    simp only [List.getElem?_toArray]
    rw [List.getElem?_append_right (by simp; omega), List.getElem?_append_right (by simp [hl]; omega)]
    simp only [List.length_cons, List.length_nil, List.length_map, hl]
    congr 1
    omega
  have p3 := part_one (P := Try.prog) Try.underlying3 rfl (far 0) w
  have e1 : A.extract 0 (0 + 2) = #[Value.int .i64 a, .int .i64 b] := by rw [← hA]; simp
  have e2 : A.extract 2 (2 + 32) = (h.map bv).toArray := by
    rw [← hA]
    apply Array.ext'
    simp [hl]
  have e4 : A.extract 35 (35 + 2) = #[Value.int .i64 s, .int .i64 m] := by
    apply Array.ext'
    apply List.ext_getElem?
    intro j
    simp only [Array.toList_extract, List.extract_eq_take_drop, List.getElem?_take, List.getElem?_drop]
    rw [Array.getElem?_toList]
    have := far (1 + j)
    rw [show 34 + (1 + j) = 35 + j by omega] at this
    rw [this]
    match j with
    | 0 => rfl
    | 1 => rfl
    | j + 2 => simp; omega
  rw [e1] at p1
  rw [e2] at p2
  rw [e4] at p4
  have q1 := eqIn_name w d a b a b
  have q2 := run_equalIn_ints w d 28 5 32 Try.underlying28 Try.underlying5 (by kernel_rfl) h h hl hl
  have q4 := eqIn_sig w d s m s m
  have q3 : (Op.equalIn (d + 2) 3 (.int .i64 l) (.int .i64 l)).run Try.prog w = .ok true w := by rw [run_equalIn_int w (d + 1) 3 .i64 .i64 l l Try.underlying3]; simp
  simp only [beq_self_eq_true, Bool.and_self] at q1 q4
  simp only [decide_true] at q2
  refine eqIn_struct_true w (d + 2) Try.underlying32 hs A A (fun f hf => ?_)
  simp only [List.mem_cons, List.not_mem_nil, or_false] at hf
  rcases hf with rfl | rfl | rfl | rfl
  · exact ⟨by decide, _, _, p1, p1, q1⟩
  · exact ⟨by decide, _, _, p2, p2, q2⟩
  · exact ⟨by decide, _, _, p3, p3, q3⟩
  · exact ⟨by decide, _, _, p4, p4, q4⟩
end Go.Proofs.Ytgnmdnmmemdemaa
