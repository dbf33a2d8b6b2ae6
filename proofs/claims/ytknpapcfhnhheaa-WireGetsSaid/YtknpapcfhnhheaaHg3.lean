/- Texts that are built one behind the other: XS, XTn, XJoin, XQ3, XCut1, XGt1. No condition. -/
import Derived.Test.YtknpapcfhnhheaaHg2
import Derived.Lib.ConvBytes
/- A region that keeps its order, told operation by operation. No program here. -/
set_option linter.unusedVariables false
namespace Go.Gv
open Go Go.RowKit

theorem putAll_snoc : ∀ (ss : List Nat) (t : List Value) (a : Act) (s : Nat) (v : Value), ss[t.length]? = some s → (putAll a ss t).put (some s) v = putAll a ss (t ++ [v])
  | [], t, a, s, v, h => by simp at h
  | s :: ss, [], a, s', v, h => by
    simp only [List.length_nil, List.getElem?_cons_zero, Option.some.injEq] at h
    subst h
    cases ss <;> rfl
  | s :: ss, u :: t, a, s', v, h => by
    simp only [List.length_cons, List.getElem?_cons_succ] at h
    simp only [List.cons_append, putAll]
    exact putAll_snoc ss t _ s' v h
theorem putAll_take : ∀ (ss : List Nat) (t : List Value) (a : Act), putAll a ss t = putAll a (ss.take t.length) t
  | [], t, a => by simp
  | s :: ss, [], a => rfl
  | s :: ss, u :: t, a => by
    simp only [List.length_cons, List.take_succ_cons, putAll]
    exact putAll_take ss t _
theorem putAll_at : ∀ (ss : List Nat) (t : List Value) (a : Act) (p s : Nat) (v : Value), ss.Nodup → ss[p]? = some s → t[p]? = some v → s < a.tmps.size → (putAll a ss t).tmps[s]? = some v
  | [], t, a, p, s, v, hn, h, hv, hs => by simp at h
  | s :: ss, [], a, p, s', v, hn, h, hv, hs => by simp at hv
  | s :: ss, u :: t, a, 0, s', v, hn, h, hv, hs => by
    simp only [List.getElem?_cons_zero, Option.some.injEq] at h hv
    subst h hv
    simp only [putAll]
    rw [putAll_out ss t _ s (List.nodup_cons.1 hn).1, put_tmps]
    simp [hs]
  | s :: ss, u :: t, a, p + 1, s', v, hn, h, hv, hs => by
    simp only [List.getElem?_cons_succ] at h hv
    simp only [putAll]
    exact putAll_at ss t _ p s' v (List.nodup_cons.1 hn).2 h hv (by simpa [put_tmps] using hs)
/-- what is known of the frame where an operation stands: t: the answers of those ahead of it, the last one first -/
structure SqE (a0 : Act) (n : Nat) (ss : List Nat) (t : List Value) (a : Act) : Prop where
  out : ∀ s : Nat, s ∉ ss → a.eval (.tmp s) = a0.eval (.tmp s)
  sz : ∀ s : Nat, s < n → s < a.tmps.size
  on : ∀ (k p s : Nat) (v : Value), ss[k]? = some s → t[p]? = some v → p + k + 1 = t.length → s < n → a.eval (.tmp s) = v
  yet : ∀ (k s : Nat), t.length ≤ k → ss[k]? = some s → a.eval (.tmp s) = a0.eval (.tmp s)
section
variable {P : Program} {ops : Array Oper} {Q : Exit → Act → World → Prop} {a0 : Act} {n : Nat} {ss : List Nat} {c : List Nat} {i : Nat} {o : Oper} {t : List Value} {w w' : World} {a : Act}
theorem SqE.v (E : SqE a0 n ss t a) {k : Nat} {v : Value} (h : a0.eval (.tmp k) = v) (hk : k ∉ ss := by decide) : a.eval (.tmp k) = v := (E.out k hk).trans h
theorem SqE.y (E : SqE a0 n ss t a) (k : Nat) {s : Nat} {v : Value} (h : a0.eval (.tmp s) = v) (hs : ss[k]? = some s := by rfl) (hk : Nat.ble t.length k = true := by rfl) : a.eval (.tmp s) = v := (E.yet k s (Nat.le_of_ble_eq_true hk) hs).trans h
theorem SqE.d (E : SqE a0 n ss t a) (k p : Nat) {s : Nat} {v : Value} (hs : ss[k]? = some s := by rfl) (hv : t[p]? = some v := by rfl) (hp : p + k + 1 = t.length := by rfl) (hn : s < n := by decide) : a.eval (.tmp s) = v := E.on k p s v hs hv hp hn
theorem SqE.q (E : SqE a0 n ss t a) (k p : Nat) {s : Nat} {v x : Value} {b : Bool} (h : (b = true → v = x) ∧ (b = false → v = undef)) (hs : ss[k]? = some s := by rfl) (hv : t[p]? = some v := by rfl) (hp : p + k + 1 = t.length := by rfl) (hn : s < n := by decide) : (b = true → a.eval (.tmp s) = x) ∧ (b = false → a.eval (.tmp s) = undef) := by
  rw [E.on k p s v hs hv hp hn]
  exact h
def QSeq (P : Program) (ops : Array Oper) (Q : Exit → Act → World → Prop) (a0 : Act) (n : Nat) (ss : List Nat) : List Nat → List Value → World → Prop
  | [], t, w => Q .normal (putAll a0 ss t.reverse) w
  | i :: c, t, w => ∀ a, SqE a0 n ss t a → wpOp P ops Q i (fun a' w' => ∃ o v, ops[i]? = some o ∧ a' = a.put o.dst v ∧ QSeq P ops Q a0 n ss c (v :: t) w') a w
theorem QSeq.go (h : ∀ a, SqE a0 n ss t a → wpOp P ops Q i (fun a' w' => ∃ v, a' = a.put o.dst v ∧ QSeq P ops Q a0 n ss c (v :: t) w') a w) (ho : ops[i]? = some o := by rfl) : QSeq P ops Q a0 n ss (i :: c) t w :=
  fun a E => wpOp_mono (fun a' w' ⟨v, e, hq⟩ => ⟨o, v, ho, e, hq⟩) (h a E)
theorem QSeq.nil {t' : List Value} (e : t.reverse = t') (h : Q .normal (putAll a0 ss t') w) : QSeq P ops Q a0 n ss [] t w := by subst e; exact h
theorem QSeq.pure {v' : Value} (ho : ops[i]? = some o) (v : Value) (hs : ∀ {a}, SqE a0 n ss t a → (execOp a.eval o).run P w = .ok (.value v') w) (h : QSeq P ops Q a0 n ss c (v :: t) w) (hg : o.guard = none := by rfl) (hv : v' = v := by rfl) : QSeq P ops Q a0 n ss (i :: c) t w :=
  QSeq.go (fun a E => qc_run ho (wanted_none hg) (hv ▸ hs E) h) ho
theorem QSeq.pureG {v' : Value} (ho : ops[i]? = some o) (v : Value) (hw : ∀ {a}, SqE a0 n ss t a → Region.wanted o (yielded ops a.tmps) = true) (hs : ∀ {a}, SqE a0 n ss t a → (execOp a.eval o).run P w = .ok (.value v') w) (h : QSeq P ops Q a0 n ss c (v :: t) w) (hv : v' = v := by rfl) : QSeq P ops Q a0 n ss (i :: c) t w :=
  QSeq.go (fun a E => qc_run ho (hw E) (hv ▸ hs E) h) ho
theorem QSeq.skip (ho : ops[i]? = some o) (hw : ∀ {a}, SqE a0 n ss t a → Region.wanted o (yielded ops a.tmps) = false) (h : QSeq P ops Q a0 n ss c (undef :: t) w) : QSeq P ops Q a0 n ss (i :: c) t w := by
  refine QSeq.go (fun a E => ?_) ho
  unfold wpOp
  rw [ho]
  simp only [hw E]
  exact ⟨undef, rfl, h⟩
/-- one that a test may leave out -/
theorem QSeq.may {b : Bool} {x' : Value} (ho : ops[i]? = some o) (x : Value) (hw : ∀ {a}, SqE a0 n ss t a → Region.wanted o (yielded ops a.tmps) = b) (hs : ∀ {a}, SqE a0 n ss t a → b = true → (execOp a.eval o).run P w = .ok (.value x') w)
    (h : ∀ v, ((b = true → v = x) ∧ (b = false → v = undef)) → QSeq P ops Q a0 n ss c (v :: t) w) (hv : x' = x := by rfl) : QSeq P ops Q a0 n ss (i :: c) t w := by
  cases b with
  | false => exact QSeq.skip ho hw (h undef ⟨(fun e => by cases e), fun _ => rfl⟩)
  | true => exact QSeq.pureG ho x hw (fun E => hs E rfl) (h x ⟨fun _ => rfl, fun e => by cases e⟩) hv
/-- a call that turns nothing, which a test may leave out -/
theorem QSeq.mayCall {b : Bool} (ho : ops[i]? = some o) (x : Value) {F : FuncId} {xs : Array Operand} {ts : Array TypeId} {args : Array Value} {fn : Func} (hw : ∀ {a}, SqE a0 n ss t a → Region.wanted o (yielded ops a.tmps) = b) (hop : o.op = .call { callee := .value (.func F), args := xs, argTypes := ts }) (hf : P.funcs[F]? = some fn)
    (ha : ∀ {a}, SqE a0 n ss t a → b = true → xs.map a.eval = args) (hcl : b = true → Calls P F args w (fun e w' => e = .returned x ∧ Mod (fun _ => False) w w'))
    (h : ∀ v w', ((b = true → v = x) ∧ (b = false → v = undef)) → Mod (fun _ => False) w w' → QSeq P ops Q a0 n ss c (v :: t) w') (hn : (fn.name == "runtime.NumGoroutine") = false := by kernel_rfl) (hb : fn.body.isNone = false := by kernel_rfl) : QSeq P ops Q a0 n ss (i :: c) t w := by
  cases b with
  | false => exact QSeq.skip ho hw (h undef w ⟨(fun e => by cases e), fun _ => rfl⟩ (Mod.refl _ _))
  | true =>
    refine QSeq.go (fun a E => ?_) ho
    refine qc_callF ho (hw E) hop hf (ha E rfl) (hcl rfl) (fun e w' ⟨he, hm⟩ => ⟨x, he, h x w' ⟨fun _ => rfl, fun e => by cases e⟩ hm⟩) hn hb
theorem wp_region_S {id : Nat} (n : Nat) (hn : a0.tmps.size = n) (ss : List Nat) (c : List Nat) (h : QSeq P ops Q a0 n ss c [] w) (hc : c = List.range ops.size := by kernel_rfl) (hss : okSlots ops n ss = true := by kernel_rfl) (hnd : ss.Nodup := by decide) : (Code.region id ops false).wp P Q a0 w := by
  subst hc
  refine wp_region ?_
  have key : ∀ (m i : Nat) (t : List Value) (w : World), i + m = ops.size → t.length = i → QSeq P ops Q a0 n ss (List.range' i m) t w → wpOps P ops Q (List.range' i m) (putAll a0 ss t.reverse) w := by
    intro m
    induction m with
    | zero => intro i t w _ _ h; exact h
    | succ m ih =>
      intro i t w him hti h
      rw [List.range'_succ] at h ⊢
      rw [wpOps_cons]
      refine wpOp_mono ?_ (h (putAll a0 ss t.reverse) ⟨fun s hs => eval_out _ _ _ _ hs, fun s hs => by rw [putAll_size, hn]; exact hs, fun k p s v hk hv hp hsn => ?_, fun k s hk hks => ?_⟩)
      · rintro a' w' ⟨o, v, ho, rfl, hq⟩
        obtain ⟨s, hs, hds⟩ := okSlots_at hss ho
        have e : (putAll a0 ss t.reverse).put o.dst v = putAll a0 ss (v :: t).reverse := by
          have e1 := putAll_snoc ss t.reverse a0 s v (by rw [List.length_reverse, hti]; exact hs)
          rw [List.reverse_cons]
          rcases hds with ⟨h1, h2⟩ | ⟨h1, h2⟩
          · rw [h1]; exact e1
          · rw [h1, ← e1, put_far _ (by rw [putAll_size, hn]; exact h2)]; rfl
        rw [e]
        exact ih (i + 1) (v :: t) w' (by omega) (by simp [hti]) hq
      · have hv' : t.reverse[k]? = some v := by
          rw [List.getElem?_reverse (by omega), show t.length - 1 - k = p by omega]
          exact hv
        have := putAll_at ss t.reverse a0 k s v hnd hk hv' (by rw [hn]; exact hsn)
        simp only [Act.eval, Array.getD_eq_getD_getElem?]
        rw [this]
        rfl
      · rw [putAll_take]
        refine eval_out _ _ _ _ fun hm => ?_
        obtain ⟨j, hj, e⟩ := List.getElem_of_mem hm
        rw [List.getElem_take] at e
        have hj2 : j < t.length := by rw [List.length_take, List.length_reverse] at hj; omega
        have hj3 : ss[j]? = some s := by rw [← e]; exact List.getElem?_eq_getElem _
        have := (List.getElem?_inj (List.getElem?_eq_some_iff.1 hj3).1 hnd).1 (hj3.trans hks.symm)
        omega
  rw [List.range_eq_range'] at h ⊢
  have hk := key ops.size 0 [] w (by omega) rfl h
  rw [show putAll a0 ss ([] : List Value).reverse = a0 by cases ss <;> rfl] at hk
  exact hk
/-- a new variable, with what is in it -/
theorem qc_box {KQ : Value → World → Prop} {ty : TypeId} {x : Operand} (ho : ops[i]? = some o) (hw : Region.wanted o (yielded ops a.tmps) = true) (hop : o.op = .box ty x) {vs : List Value} (hx : (a.eval x).cells = vs.toArray)
    (h : ∀ w', Cs w' w.heap.size vs.toArray ty → Mod (fun _ => False) w w' → KQ (.pointer (some ⟨w.heap.size, 0, none⟩)) w') : wpOp P ops Q i (fun a' w' => ∃ v, a' = a.put o.dst v ∧ KQ v w') a w := by
  have hr : (execOp a.eval o).run P w = .ok (.value (.pointer (some ⟨w.heap.size, 0, none⟩))) (w.alloc (.cells vs.toArray ty)) := by
    unfold execOp
    simp [hop, Instr.box, newVar, newRow, hx]
  exact qc_run ho hw hr (h _ (Cs.new _ _ _) ((Mod.refl _ _).alloc _))
theorem beq_t (b : Bool) : (b == true) = b := by cases b <;> rfl
theorem beq_f (b : Bool) : (b == false) = !b := by cases b <;> rfl
theorem Mod.goS {S S' T : Nat → Prop} {w a b : World} (h : Mod S w a) (hm : Mod T a b) (hS : ∀ k, S k → S' k) (hT : ∀ k, k < w.heap.size → T k → S' k) : Mod S' w b := (h.mono (fun k _ h => hS k h)).trans hm hT
theorem Mod.goE {S : Nat → Prop} {w a b : World} (h : Mod S w a) (hm : Mod (fun _ => False) a b) : Mod S w b := h.trans hm (fun _ _ h => h.elim)
end
end Go.Gv

/- gavellaw05.turned. -/
set_option maxRecDepth 100000
set_option linter.unusedVariables false
namespace Go.Proofs.Ytknpapcfhnhheaa
open Go Go.RowKit Go.Gv


theorem eq_tt {a b : Int} (h : a = b) : (a == b) = true := by simp [h]
theorem eq_ff {a b : Int} (h : ¬ a = b) : (a == b) = false := by simp [h]
/-- the block of bytes that are one's own: one of them may be written -/
theorem OwR.cs {R : Nat → Prop} {N n cap : Nat} {ao : Option Addr} {w : World} {bs : List Int} (h : OwR R N w (.slice ao n cap) bs) (hp : 0 < bs.length) :
    ∃ g cl, ao = some ⟨g, 0, none⟩ ∧ Cs w g (List.toArray cl) 5 ∧ R g ∧ (∀ i (hi : i < bs.length), cl[i]? = some (bv bs[i])) ∧ bs.length ≤ cl.length ∧
      ∀ w' i x, i < bs.length → 0 ≤ x ∧ x < 256 → Cs w' g (List.toArray (cl.set i (bv x))) 5 → OwR R N w' (.slice ao n cap) (bs.set i x) := by
  obtain ⟨h1, h2, h3⟩ := h
  have hby := h1.bytes
  obtain ⟨hl, hE, ⟨e, hn⟩ | ⟨g, cap', cur, e, hc, q1, q2, q3, q4, q5⟩⟩ := h1
  · have : bs.length = 0 := by simpa using hn
    omega
  · injection e with e1 e2 e3
    subst e1 e2 e3
    have hget : ∀ i (hi : i < bs.length), cur.toList[i]? = some (bv bs[i]) := by
      intro i hi
      have e : (cur.toList.take (bs.length * 1))[i]? = (bs.map bv)[i]? := by rw [q4]
      rw [List.getElem?_take, if_pos (by omega)] at e
      rw [e]
      simp [hi]
    have hlen : bs.length ≤ cur.toList.length := by have : cur.toList.length = cur.size := rfl; omega
    refine ⟨g, cur.toList, rfl, hc, h2 g rfl, hget, hlen, fun w' i x hi hx hc' => ⟨?_, h2, by simpa using h3⟩⟩
    have hbx : ∀ z ∈ bs.set i x, 0 ≤ z ∧ z < 256 := fun z hz => by
      rcases List.mem_or_eq_of_mem_set hz with hz | rfl
      · exact hby z hz
      · exact hx
    refine ⟨by simp, isB_all hbx, .inr ⟨g, cap, _, by simp, hc', by simpa using q1, q2, ?_, ?_, ?_⟩⟩
    · simpa using q3
    · have : ((cur.toList.set i (bv x)).toArray.toList.take ((bs.set i x).length * 1)) = (bs.set i x).map bv := by
        simp only [List.length_set, List.map_set, Nat.mul_one]
        rw [List.take_set, ← q4, Nat.mul_one]
      exact this
    · intro u hu
      have hu' : u ∈ cur.toList.set i (bv x) := hu
      rcases List.mem_or_eq_of_mem_set hu' with hu' | rfl
      · exact q5 u hu'
      · exact ⟨x, rfl, hx⟩
theorem lay_set1 (cl : List Value) (i : Nat) (v : Value) (h : i < cl.length) : lay cl.toArray (0 + i * 1) [v] = (cl.set i v).toArray := by
  unfold lay
  congr 1
  simp only [Nat.zero_add, Nat.mul_one, List.length_cons, List.length_nil]
  rw [List.set_eq_take_append_cons_drop, if_pos h]
  simp
set_option maxHeartbeats 4000000 in
theorem turned_Q {RR : Nat → Prop} {v : Value} {bs : List Int} {how at_ c : Int} {w : World} (h : RdR RR 900000 w v bs) (hR : ∀ k, RR k → k < w.heap.size) (hhow : I64 how) (hat : I64 at_) (hc : 0 ≤ c ∧ c < 256) :
    Calls Try.prog 27 #[v, .int .i64 how, .int .i64 at_, .int .u8 c] w fun e w' => ∃ v' bs', e = .returned v' ∧ RdR (New w w') 900000 w' v' bs' ∧ Mod (fun _ => False) w w' := by
  obtain ⟨ao, cap, rfl⟩ := h.shape
  have HS := Lib.hid h
  have HL := hid h.2.2
  have HB := hid h.1.block_lt
  have HH := Lib.hid hhow
  have HA := Lib.hid hat
  have HC := Lib.hid hc
  clear h hhow hat hc
  have HRR := Lib.hid hR
  clear hR
  go_enter Try.func27, Try.ntmps27
  go_upto_region 1 with (fail)
  have HM0 := hid (Mod.refl (fun _ => False) w)
  go_upto_region 1 with (fail)
  generalize ha0 : Act.mk _ _ = a0
  have oe0 : a0.eval (.tmp 0) = .slice ao bs.length cap := by rw [← ha0]; rfl
  have hsz0 : a0.tmps.size = 38 := by rw [← ha0]; rfl
  have HA0 := hid ha0
  clear ha0
  refine wp_region_S 38 hsz0 [9, 10, 0] [0, 1, 2] ?_
  refine QSeq.pure rfl (.slice ao bs.length cap) (fun E => ex_move rfl (E.y 2 oe0)) ?_
  refine QSeq.go fun act E => ?_
  refine qc_callF (args := #[.slice ao bs.length cap]) rfl (wanted_none rfl) rfl Try.func29 (args1 (E.d 0 0)) (Copy_R (N := 900000) HS.out (by decide)) ?_
  rintro e u1_1 ⟨v1, rfl, qcp, hm⟩
  obtain ⟨aoc, capc, rfl⟩ := qcp.shape
  refine ⟨_, rfl, ?_⟩
  have Hx1 := hid (qcp.widen (R' := (fun k => (New w u1_1 k))) (fun _ h => h) (Nat.le_refl _))
  have zu1_1 := hm.size
  have Cx2 := hid (show Mod (fun _ => False) w u1_1 from hm)
  clear hm
  clear act E qcp
  refine QSeq.pure rfl (.slice aoc bs.length capc) (fun E => ex_assign rfl (E.d 1 0)) ?_
  refine QSeq.nil (t' := [_, _, _]) rfl ?_
  have ha0 := HA0.out
  subst ha0
  clear HA0 hsz0 oe0
  simp only [putAll, Act.put, List.setIfInBounds_toArray, List.set_cons_zero, List.set_cons_succ]
  clear HS
  go_upto_region 2 with (fail)
  generalize ha0 : Act.mk _ _ = a0
  have oe1 : a0.eval (.tmp 1) = .int .i64 how := by rw [← ha0]; rfl
  have hsz0 : a0.tmps.size = 38 := by rw [← ha0]; rfl
  have HA0 := hid ha0
  clear ha0
  refine wp_region_S 38 hsz0 [11, 12] [0, 1] ?_
  refine QSeq.pure rfl (.int .i64 how) (fun E => ex_move rfl (E.v oe1)) ?_
  refine QSeq.go fun act E => ?_
  refine qc_callF (args := #[.int .i64 how, .int .i64 4]) rfl (wanted_none rfl) rfl Try.func13 (args2 (E.d 0 0) rfl) (Within_any how 4 (by decide) (by decide) HH.out _) ?_
  rintro e w2 ⟨rfl, hw2⟩
  obtain rfl : u1_1 = w2 := by first | exact hw2 | exact hw2.symm
  refine ⟨_, rfl, ?_⟩
  clear act E
  refine QSeq.nil (t' := [_, _]) rfl ?_
  have ha0 := HA0.out
  subst ha0
  clear HA0 hsz0 oe1
  simp only [putAll, Act.put, List.setIfInBounds_toArray, List.set_cons_zero, List.set_cons_succ]
  have hlm : bs.length ≤ 900000 := HL.out
  by_cases h1 : within how 4 = 1
  · skip
    go_upto_region 3 with (fail)
    generalize ha0 : Act.mk _ _ = a0
    have oe12 : a0.eval (.tmp 12) = .int .i64 (within how 4) := by rw [← ha0]; rfl
    have hsz0 : a0.tmps.size = 38 := by rw [← ha0]; rfl
    have HA0 := hid ha0
    clear ha0
    refine wp_region_S 38 hsz0 [14, 13] [0, 1] ?_
    refine QSeq.pure rfl (.bool true) (fun E => ex_binE rfl (E.v oe12) rfl (guard_ints _ _ _ _ _ _) (run_eql_i _ _ _ Try.underlying3) (congrArg Value.bool (eq_tt h1))) ?_
    refine QSeq.pure rfl (.bool true) (fun E => ex_assign rfl (E.d 0 0)) ?_
    refine QSeq.nil (t' := [_, _]) rfl ?_
    have ha0 := HA0.out
    subst ha0
    clear HA0 hsz0 oe12
    simp only [putAll, Act.put, List.setIfInBounds_toArray, List.set_cons_zero, List.set_cons_succ]
    by_cases hp : 0 < bs.length
    · skip
      go_upto_region 4 with (fail)
      generalize ha0 : Act.mk _ _ = a0
      have oe0 : a0.eval (.tmp 0) = .slice aoc bs.length capc := by rw [← ha0]; rfl
      have hsz0 : a0.tmps.size = 38 := by rw [← ha0]; rfl
      have HA0 := hid ha0
      clear ha0
      refine wp_region_S 38 hsz0 [15, 16, 17] [0, 1, 2] ?_
      refine QSeq.pure rfl (.slice aoc bs.length capc) (fun E => ex_move rfl (E.v oe0)) ?_
      refine QSeq.pure rfl (.int .i64 bs.length) (fun E => ex_lenS rfl (E.d 0 0) Try.underlying38) ?_
      refine QSeq.pure rfl (.bool true) (fun E => ex_binE rfl (E.d 1 0) rfl (guard_ints _ _ _ _ _ _) (run_gtr_i _ _ _ Try.underlying3) (congrArg Value.bool (decide_eq_true (by omega)))) ?_
      refine QSeq.nil (t' := [_, _, _]) rfl ?_
      have ha0 := HA0.out
      subst ha0
      clear HA0 hsz0 oe0
      simp only [putAll, Act.put, List.setIfInBounds_toArray, List.set_cons_zero, List.set_cons_succ]
      obtain ⟨i, hi, hlt0⟩ := within_nat at_ (bs.length : Int) (by omega)
      have hlt : i < bs.length := by omega
      have HWI := Lib.hid hi
      clear hi
      obtain ⟨g, cl, eao, hcs, hrg, hget, hll, hset⟩ := OwR.cs Hx1.out hp
      subst eao
      obtain ⟨x, hx⟩ : ∃ x, x = bs[i] := ⟨_, rfl⟩
      have hg := hget i hlt
      rw [← hx] at hg
      have HG := Lib.hid hg
      have HCU := Lib.hid hcs
      have HSET := Lib.hid hset
      have hgn : New w u1_1 g := hrg
      have hil : i < cl.length := by omega
      clear hcs hget hg hset hx
      go_upto_region 5 with (fail)
      generalize ha0 : Act.mk _ _ = a0
      have oe0 : a0.eval (.tmp 0) = .slice (some ⟨g, 0, none⟩) bs.length capc := by rw [← ha0]; rfl
      have oe2 : a0.eval (.tmp 2) = .int .i64 at_ := by rw [← ha0]; rfl
      have oe3 : a0.eval (.tmp 3) = .int .u8 c := by rw [← ha0]; rfl
      have hsz0 : a0.tmps.size = 38 := by rw [← ha0]; rfl
      have HA0 := hid ha0
      clear ha0
      refine wp_region_S 38 hsz0 [18, 19, 20, 21, 22, 23, 24, 25, 26, 27, 48] [0, 1, 2, 3, 4, 5, 6, 7, 8, 9, 10] ?_
      refine QSeq.pure rfl (.slice (some ⟨g, 0, none⟩) bs.length capc) (fun E => ex_move rfl (E.v oe0)) ?_
      refine QSeq.pure rfl (.int .i64 at_) (fun E => ex_move rfl (E.v oe2)) ?_
      refine QSeq.pure rfl (.slice (some ⟨g, 0, none⟩) bs.length capc) (fun E => ex_move rfl (E.v oe0)) ?_
      refine QSeq.pure rfl (.int .i64 bs.length) (fun E => ex_lenS rfl (E.d 2 0) Try.underlying38) ?_
      refine QSeq.go fun act E => ?_
      refine qc_callF (args := #[.int .i64 at_, .int .i64 (bs.length : Int)]) rfl (wanted_none rfl) rfl Try.func13 (args2 (E.d 1 2) (E.d 3 0)) (HWI.out ▸ Within_any at_ (bs.length : Int) (by omega) (by omega) HA.out _) ?_
      rintro e w2 ⟨rfl, hw2⟩
      obtain rfl : u1_1 = w2 := by first | exact hw2 | exact hw2.symm
      refine ⟨_, rfl, ?_⟩
      clear act E
      refine QSeq.pure rfl (.pointer (some ⟨g, 0 + i * 1, none⟩)) (fun E => ex_idxS (i := i) (s := 1) rfl Try.underlying38 (by kernel_rfl) (E.d 0 4) (E.d 4 0) hlt) ?_
      refine QSeq.pure rfl (.int .u8 x) (fun E => ex_load1 rfl Try.underlying5 rfl (E.d 5 0) (by rw [HCU.out.cell]; simpa using HG.out)) ?_
      refine QSeq.pure rfl (.int .u8 c) (fun E => ex_move rfl (E.v oe3)) ?_
      refine QSeq.pure rfl (.int .u8 (bits .xor .u8 x c)) (fun E => ex_bin rfl (E.d 6 1) (E.d 7 0) (guard_ints _ _ _ _ _ _) (run_xor_i _ _)) ?_
      refine QSeq.pure rfl (.pointer (some ⟨g, 0 + i * 1, none⟩)) (fun E => ex_idxS (i := i) (s := 1) rfl Try.underlying38 (by kernel_rfl) (E.d 0 8) (E.d 4 4) hlt) ?_
      refine QSeq.go fun act E => ?_
      refine qc_store rfl (wanted_none rfl) rfl HCU.out (off := 0 + i * 1) (vs := [.int .u8 (bits .xor .u8 x c)]) (by kernel_rfl) (by intro u hu; simp at hu; subst hu; rfl) (by show 0 + i * 1 + 1 ≤ cl.length; omega) (E.d 9 0) (by rw [show act.eval ((.tmp 26)) = _ from (E.d 8 1)]; rfl) ?_
      intro u5_10 qc0 hm
      have qcur : Cs u5_10 (g) ((cl.set i (.int .u8 (bits .xor .u8 x c))) : List Value).toArray 5 := by rw [show lay _ (0 + i * 1) _ = ((cl.set i (.int .u8 (bits .xor .u8 x c))) : List Value).toArray from lay_set1 cl i _ hil] at qc0; exact qc0
      clear qc0
      have Hx3 := hid qcur
      have zu5_10 := hm.size
      have Cx4 := hid (show Mod (fun k => (k = g)) u1_1 u5_10 from hm)
      clear hm
      clear act E qcur HCU
      refine QSeq.nil (t' := [_, _, _, _, _, _, _, _, _, _, _]) rfl ?_
      have ha0 := HA0.out
      subst ha0
      clear HA0 hsz0 oe0 oe2 oe3
      simp only [putAll, Act.put, List.setIfInBounds_toArray, List.set_cons_zero, List.set_cons_succ, List.set_nil]
      have HOW := hid (HSET.out _ i (bits .xor .u8 x c) hlt (by have := bounds_u8 (wf_bits .xor .u8 x c); omega) Hx3.out)
      go_upto_region 8 with (fail)
      generalize ha0 : Act.mk _ _ = a0
      have oe0 : a0.eval (.tmp 0) = .slice (some ⟨g, 0, none⟩) bs.length capc := by rw [← ha0]; rfl
      have hsz0 : a0.tmps.size = 38 := by rw [← ha0]; rfl
      have HA0 := hid ha0
      clear ha0
      refine wp_region_S 38 hsz0 [37, 8] [0, 1] ?_
      refine QSeq.pure rfl (.slice (some ⟨g, 0, none⟩) bs.length capc) (fun E => ex_move rfl (E.v oe0)) ?_
      refine QSeq.pure rfl (.slice (some ⟨g, 0, none⟩) bs.length capc) (fun E => ex_assign rfl (E.d 0 0)) ?_
      refine QSeq.nil (t' := [_, _]) rfl ?_
      have ha0 := HA0.out
      subst ha0
      clear HA0 hsz0 oe0
      simp only [putAll, Act.put, List.setIfInBounds_toArray, List.set_cons_zero, List.set_cons_succ]
      go_wp2
      go_ret
      exact ⟨_, rfl, ⟨bs.set i (bits .xor .u8 x c), (HOW.out.rd.widen (by intro k h1; omega) (Nat.le_refl _))⟩, ((HM0.out.trans Cx2.out (fun _ _ h => h.elim)).trans Cx4.out (by intro k h1 h2; omega))⟩
    · skip
      go_upto_region 4 with (fail)
      generalize ha0 : Act.mk _ _ = a0
      have oe0 : a0.eval (.tmp 0) = .slice aoc bs.length capc := by rw [← ha0]; rfl
      have hsz0 : a0.tmps.size = 38 := by rw [← ha0]; rfl
      have HA0 := hid ha0
      clear ha0
      refine wp_region_S 38 hsz0 [15, 16, 17] [0, 1, 2] ?_
      refine QSeq.pure rfl (.slice aoc bs.length capc) (fun E => ex_move rfl (E.v oe0)) ?_
      refine QSeq.pure rfl (.int .i64 bs.length) (fun E => ex_lenS rfl (E.d 0 0) Try.underlying38) ?_
      refine QSeq.pure rfl (.bool false) (fun E => ex_binE rfl (E.d 1 0) rfl (guard_ints _ _ _ _ _ _) (run_gtr_i _ _ _ Try.underlying3) (congrArg Value.bool (decide_eq_false (by omega)))) ?_
      refine QSeq.nil (t' := [_, _, _]) rfl ?_
      have ha0 := HA0.out
      subst ha0
      clear HA0 hsz0 oe0
      simp only [putAll, Act.put, List.setIfInBounds_toArray, List.set_cons_zero, List.set_cons_succ]
      go_upto_region 8 with (fail)
      generalize ha0 : Act.mk _ _ = a0
      have oe0 : a0.eval (.tmp 0) = .slice aoc bs.length capc := by rw [← ha0]; rfl
      have hsz0 : a0.tmps.size = 38 := by rw [← ha0]; rfl
      have HA0 := hid ha0
      clear ha0
      refine wp_region_S 38 hsz0 [37, 8] [0, 1] ?_
      refine QSeq.pure rfl (.slice aoc bs.length capc) (fun E => ex_move rfl (E.v oe0)) ?_
      refine QSeq.pure rfl (.slice aoc bs.length capc) (fun E => ex_assign rfl (E.d 0 0)) ?_
      refine QSeq.nil (t' := [_, _]) rfl ?_
      have ha0 := HA0.out
      subst ha0
      clear HA0 hsz0 oe0
      simp only [putAll, Act.put, List.setIfInBounds_toArray, List.set_cons_zero, List.set_cons_succ]
      go_wp2
      go_ret
      exact ⟨_, rfl, ⟨bs, (Hx1.out.rd.widen (by intro k h1; omega) (Nat.le_refl _))⟩, (HM0.out.trans Cx2.out (fun _ _ h => h.elim))⟩
  · skip
    go_upto_region 3 with (fail)
    generalize ha0 : Act.mk _ _ = a0
    have oe12 : a0.eval (.tmp 12) = .int .i64 (within how 4) := by rw [← ha0]; rfl
    have hsz0 : a0.tmps.size = 38 := by rw [← ha0]; rfl
    have HA0 := hid ha0
    clear ha0
    refine wp_region_S 38 hsz0 [14, 13] [0, 1] ?_
    refine QSeq.pure rfl (.bool false) (fun E => ex_binE rfl (E.v oe12) rfl (guard_ints _ _ _ _ _ _) (run_eql_i _ _ _ Try.underlying3) (congrArg Value.bool (eq_ff h1))) ?_
    refine QSeq.pure rfl (.bool false) (fun E => ex_assign rfl (E.d 0 0)) ?_
    refine QSeq.nil (t' := [_, _]) rfl ?_
    have ha0 := HA0.out
    subst ha0
    clear HA0 hsz0 oe12
    simp only [putAll, Act.put, List.setIfInBounds_toArray, List.set_cons_zero, List.set_cons_succ]
    by_cases h2 : within how 4 = 2
    · skip
      go_upto_region 6 with (fail)
      generalize ha0 : Act.mk _ _ = a0
      have oe12 : a0.eval (.tmp 12) = .int .i64 (within how 4) := by rw [← ha0]; rfl
      have hsz0 : a0.tmps.size = 38 := by rw [← ha0]; rfl
      have HA0 := hid ha0
      clear ha0
      refine wp_region_S 38 hsz0 [29, 28] [0, 1] ?_
      refine QSeq.pure rfl (.bool true) (fun E => ex_binE rfl (E.v oe12) rfl (guard_ints _ _ _ _ _ _) (run_eql_i _ _ _ Try.underlying3) (congrArg Value.bool (eq_tt h2))) ?_
      refine QSeq.pure rfl (.bool true) (fun E => ex_assign rfl (E.d 0 0)) ?_
      refine QSeq.nil (t' := [_, _]) rfl ?_
      have ha0 := HA0.out
      subst ha0
      clear HA0 hsz0 oe12
      simp only [putAll, Act.put, List.setIfInBounds_toArray, List.set_cons_zero, List.set_cons_succ]
      obtain ⟨i, hi, hlt0⟩ := within_nat at_ ((bs.length : Int) + 1) (by omega)
      have hlt : i ≤ bs.length := by omega
      have HWI := Lib.hid hi
      clear hi
      have hcap : bs.length ≤ capc := (Hx1.out).1.rd.len.2.1
      go_upto_region 7 with (fail)
      generalize ha0 : Act.mk _ _ = a0
      have oe0 : a0.eval (.tmp 0) = .slice aoc bs.length capc := by rw [← ha0]; rfl
      have oe2 : a0.eval (.tmp 2) = .int .i64 at_ := by rw [← ha0]; rfl
      have hsz0 : a0.tmps.size = 38 := by rw [← ha0]; rfl
      have HA0 := hid ha0
      clear ha0
      refine wp_region_S 38 hsz0 [30, 31, 32, 33, 34, 35, 36, 0] [0, 1, 2, 3, 4, 5, 6, 7] ?_
      refine QSeq.pure rfl (.slice aoc bs.length capc) (fun E => ex_move rfl (E.y 7 oe0)) ?_
      refine QSeq.pure rfl (.int .i64 at_) (fun E => ex_move rfl (E.v oe2)) ?_
      refine QSeq.pure rfl (.slice aoc bs.length capc) (fun E => ex_move rfl (E.y 7 oe0)) ?_
      refine QSeq.pure rfl (.int .i64 bs.length) (fun E => ex_lenS rfl (E.d 2 0) Try.underlying38) ?_
      refine QSeq.pure rfl (.int .i64 ((bs.length : Int) + 1)) (fun E => ex_binE rfl (E.d 3 0) rfl (guard_ints _ _ _ _ _ _) (run_add_i _ _ Try.underlying3) (congrArg (Value.int .i64) (IntWalk.i64_in _ (by omega)))) ?_
      refine QSeq.go fun act E => ?_
      refine qc_callF (args := #[.int .i64 at_, .int .i64 ((bs.length : Int) + 1)]) rfl (wanted_none rfl) rfl Try.func13 (args2 (E.d 1 3) (E.d 4 0)) (HWI.out ▸ Within_any at_ ((bs.length : Int) + 1) (by omega) (by omega) HA.out _) ?_
      rintro e w2 ⟨rfl, hw2⟩
      obtain rfl : u1_1 = w2 := by first | exact hw2 | exact hw2.symm
      refine ⟨_, rfl, ?_⟩
      clear act E
      refine QSeq.pure rfl (.slice aoc i capc) (fun E => ex_sliceTo (i := i) (s := 1) rfl Try.underlying38 (by kernel_rfl) (E.d 0 5) (E.d 5 0) (by omega)) ?_
      refine QSeq.pure rfl (.slice aoc i capc) (fun E => ex_assign rfl (E.d 6 0)) ?_
      refine QSeq.nil (t' := [_, _, _, _, _, _, _, _]) rfl ?_
      have ha0 := HA0.out
      subst ha0
      clear HA0 hsz0 oe0 oe2
      simp only [putAll, Act.put, List.setIfInBounds_toArray, List.set_cons_zero, List.set_cons_succ]
      go_upto_region 8 with (fail)
      generalize ha0 : Act.mk _ _ = a0
      have oe0 : a0.eval (.tmp 0) = .slice aoc i capc := by rw [← ha0]; rfl
      have hsz0 : a0.tmps.size = 38 := by rw [← ha0]; rfl
      have HA0 := hid ha0
      clear ha0
      refine wp_region_S 38 hsz0 [37, 8] [0, 1] ?_
      refine QSeq.pure rfl (.slice aoc i capc) (fun E => ex_move rfl (E.v oe0)) ?_
      refine QSeq.pure rfl (.slice aoc i capc) (fun E => ex_assign rfl (E.d 0 0)) ?_
      refine QSeq.nil (t' := [_, _]) rfl ?_
      have ha0 := HA0.out
      subst ha0
      clear HA0 hsz0 oe0
      simp only [putAll, Act.put, List.setIfInBounds_toArray, List.set_cons_zero, List.set_cons_succ]
      go_wp2
      go_ret
      exact ⟨_, rfl, ⟨bs.take i, ((Hx1.out.rd.upto i hlt).widen (by intro k h1; omega) (Nat.le_refl _))⟩, (HM0.out.trans Cx2.out (fun _ _ h => h.elim))⟩
    · skip
      go_upto_region 6 with (fail)
      generalize ha0 : Act.mk _ _ = a0
      have oe12 : a0.eval (.tmp 12) = .int .i64 (within how 4) := by rw [← ha0]; rfl
      have hsz0 : a0.tmps.size = 38 := by rw [← ha0]; rfl
      have HA0 := hid ha0
      clear ha0
      refine wp_region_S 38 hsz0 [29, 28] [0, 1] ?_
      refine QSeq.pure rfl (.bool false) (fun E => ex_binE rfl (E.v oe12) rfl (guard_ints _ _ _ _ _ _) (run_eql_i _ _ _ Try.underlying3) (congrArg Value.bool (eq_ff h2))) ?_
      refine QSeq.pure rfl (.bool false) (fun E => ex_assign rfl (E.d 0 0)) ?_
      refine QSeq.nil (t' := [_, _]) rfl ?_
      have ha0 := HA0.out
      subst ha0
      clear HA0 hsz0 oe12
      simp only [putAll, Act.put, List.setIfInBounds_toArray, List.set_cons_zero, List.set_cons_succ]
      go_upto_region 8 with (fail)
      generalize ha0 : Act.mk _ _ = a0
      have oe0 : a0.eval (.tmp 0) = .slice aoc bs.length capc := by rw [← ha0]; rfl
      have hsz0 : a0.tmps.size = 38 := by rw [← ha0]; rfl
      have HA0 := hid ha0
      clear ha0
      refine wp_region_S 38 hsz0 [37, 8] [0, 1] ?_
      refine QSeq.pure rfl (.slice aoc bs.length capc) (fun E => ex_move rfl (E.v oe0)) ?_
      refine QSeq.pure rfl (.slice aoc bs.length capc) (fun E => ex_assign rfl (E.d 0 0)) ?_
      refine QSeq.nil (t' := [_, _]) rfl ?_
      have ha0 := HA0.out
      subst ha0
      clear HA0 hsz0 oe0
      simp only [putAll, Act.put, List.setIfInBounds_toArray, List.set_cons_zero, List.set_cons_succ]
      go_wp2
      go_ret
      exact ⟨_, rfl, ⟨bs, (Hx1.out.rd.widen (by intro k h1; omega) (Nat.le_refl _))⟩, (HM0.out.trans Cx2.out (fun _ _ h => h.elim))⟩
end Go.Proofs.Ytknpapcfhnhheaa

/- gavelref01.join: bytes, one behind the other; a region that joins what calls answer. -/
set_option maxRecDepth 100000
set_option linter.unusedVariables false
namespace Go.Gv
open Go Go.RowKit
section
variable {P : Program} {o : Oper} {a : Act} {w w' : World}
/-- a row of slices is made -/
theorem ex_buildSl {ts T : TypeId} {n : Nat} {parts : Array (Nat × Operand)} (ho : o.op = .buildSlice ts n parts) (hu : P.underlying ts = some (.slice T)) (hie : (P.info? T).map (fun i => (i.size, i.zero)) = some (1, some (.slice none 0 0))) (hn : n ≠ 0 ∧ n ≤ 1000) {C : Array Value}
    (hf : Instr.fill (fun i => some (i * 1, 1)) ((Array.range (n * 1)).map (#[Value.slice none 0 0][· % 1]!)) (parts.map fun (i, x) => (i, a.eval x)).toList = some C) :
    (execOp a.eval o).run P w = .ok (.value (.slice (some ⟨w.heap.size, 0, none⟩) n n)) (w.alloc (.cells C T)) := by
  cases hq : P.info? T with
  | none => rw [hq] at hie; cases hie
  | some ie =>
    rw [hq] at hie
    have e := Option.some.inj hie
    have e1 : ie.size = 1 := congrArg Prod.fst e
    have e2 : ie.zero = some (.slice none 0 0) := congrArg Prod.snd e
    have hr := run_buildSlice (P := P) w ts T n (parts.map fun (i, x) => (i, a.eval x)) C ie (.slice none 0 0) hu hq e2 (by rw [e1]; omega) (by rw [e1]; omega) (by rw [e1]; exact hf)
    unfold execOp
    simp only [ho, Sem.run_bind, hr, Result.andThen_ok, Sem.run_pure]
end
/-- marks turn no cell -/
theorem Marked.cell {B : Nat} {T8 : TypeId} {w w' : World} (hm : Marked B T8 w w') {p : Addr} {u : Value} (h : w.cell? p = some u) : w'.cell? p = some u := by
  have hlt := World.block_lt_of_cell? _ _ h
  rcases hm.block p.block hlt with h1 | ⟨-, C, m, h1, h2⟩
  · exact (World.cell?_of_block h1).trans h
  · unfold World.cell? at h ⊢
    rw [h1] at h
    rw [h2]
    exact h
theorem Rd.cells {s n : Nat} {w w' : World} {v : Value} {cs : List Value} (h : Rd s w v n cs) (hc : ∀ p u, w.cell? p = some u → w'.cell? p = some u) : Rd s w' v n cs := by
  obtain ⟨hl, ao, cap, rfl, h1, h2, h3, h4⟩ := h
  exact ⟨hl, ao, cap, rfl, h1, h2, h3, fun x hx j u hu => ⟨(h4 x hx j u hu).1, hc _ _ (h4 x hx j u hu).2⟩⟩
theorem Rd.old {s n : Nat} {w : World} {v : Value} {cs : List Value} (hs : 0 < s) (h : Rd s w v n cs) (h0 : 0 < n) : ∀ g, v.ownBlock = some g → g < w.heap.size := by
  rcases h.form hs with ⟨rfl, _⟩ | ⟨g, o, cap, _, rfl, _, _, hl, hc⟩
  · omega
  · intro g' hg
    have e : g = g' := by simpa [Value.ownBlock] using hg
    subst e
    have hlt : 0 < cs.length := by rw [hl]; exact Nat.mul_pos h0 hs
    exact World.block_lt_of_cell? _ _ (hc 0 _ (List.getElem?_eq_getElem hlt))
end Go.Gv
namespace Go.Proofs.Ytknpapcfhnhheaa
open Go Go.RowKit Go.Gv

theorem RdB.cells {w w' : World} {v : Value} {bs : List Int} (h : RdB w v bs) (hc : ∀ p u, w.cell? p = some u → w'.cell? p = some u) : RdB w' v bs := ⟨h.1, h.2.cells hc⟩
/-- rows of bytes: the outer list, and each row where it lies -/
structure RdJ (w : World) (v : Value) (rs : List (Value × List Int)) : Prop where
  o : Rd 1 w v rs.length (rs.map (·.1))
  f : ∀ p ∈ rs, RdB w p.1 p.2
theorem RdJ.cells {w w' : World} {v : Value} {rs : List (Value × List Int)} (h : RdJ w v rs) (hc : ∀ p u, w.cell? p = some u → w'.cell? p = some u) : RdJ w' v rs := ⟨h.o.cells hc, fun p hp => (h.f p hp).cells hc⟩
theorem RdJ.shape {w : World} {v : Value} {rs : List (Value × List Int)} (h : RdJ w v rs) : ∃ ao cap, v = .slice ao rs.length cap := by
  obtain ⟨_, ao, cap, e, _⟩ := h.o
  exact ⟨ao, cap, e⟩
theorem RdJ.at {w : World} {ao : Option Addr} {n cap : Nat} {rs : List (Value × List Int)} (h : RdJ w (.slice ao n cap) rs) {i : Nat} (hi : i < rs.length) :
    ∃ g o, ao = some ⟨g, o, none⟩ ∧ g < w.heap.size ∧ w.cell? ⟨g, o + i, none⟩ = some rs[i].1 := by
  rcases h.o.form (by decide) with ⟨h0, _⟩ | ⟨g, o, cap', h0, hv, h1, h2, hl, hc⟩
  · omega
  · simp only [Value.slice.injEq] at hv
    obtain ⟨rfl, rfl, rfl⟩ := hv
    exact ⟨g, o, rfl, h.o.old (by decide) h0 g rfl, hc i _ (by simp [List.getElem?_eq_getElem hi])⟩
/-- a new outer list -/
theorem RdJ.new {w : World} {e : TypeId} {rs : List (Value × List Int)} (h : ∀ p ∈ rs, RdB w p.1 p.2) (hl : rs.length ≤ 1000) {C : Array Value} (hC : C = (rs.map (·.1)).toArray) {n : Nat} (hn : n = rs.length) : RdJ (w.alloc (.cells C e)) (.slice (some ⟨w.heap.size, 0, none⟩) n n) rs := by
  subst hC
  subst hn
  refine ⟨Rd.mk (Nat.le_refl _) (by rw [maxLen_val]; omega) (by simp) fun j y hy => ?_, fun p hp => (h p hp).alloc _⟩
  rw [Nat.zero_add, (Cs.new w _ e).cell]
  simpa using hy
def flat (rs : List (Value × List Int)) : List Int := (rs.map (·.2)).flatten
theorem flat_take (rs : List (Value × List Int)) (i : Nat) (h : i < rs.length) : flat (rs.take (i + 1)) = flat (rs.take i) ++ rs[i].2 := by
  unfold flat
  rw [List.take_succ_eq_append_getElem h, List.map_append, List.flatten_append]
  simp
theorem flat_le (rs : List (Value × List Int)) (i : Nat) : (flat (rs.take i)).length ≤ (flat rs).length := by
  conv => rhs; rw [← List.take_append_drop i rs]
  unfold flat
  rw [List.map_append, List.flatten_append, List.length_append]
  omega
set_option maxHeartbeats 4000000 in
theorem Join_any (v : Value) (rs : List (Value × List Int)) (w : World) (h : RdJ w v rs) (hn : rs.length ≤ 1000) (hl : (flat rs).length ≤ 900000) :
    Calls Try.prog 68 #[v] w fun e w' => ∃ v', e = .returned v' ∧ OwR (New w w') (flat rs).length w' v' (flat rs) ∧ Mod (fun _ => False) w w' := by
  have HR1 := Lib.hid h
  have HFL := Lib.hid hl
  obtain ⟨ao, cap, rfl⟩ := h.shape
  clear h hl
  go_enter Try.func68, Try.ntmps68
  go_wp2
  go_loopw [3, 7] (fun t3 t7 wr => ∃ (i : Nat), t7 = .int .i64 i ∧ i ≤ rs.length ∧ OwR (fun k => w.heap.size ≤ k) (flat (rs.take i)).length wr t3 (flat (rs.take i)) ∧ Mod (fun k => w.heap.size ≤ k) w wr) (fun _ t7 _ => rs.length - (intOf t7).toNat)
  case atStart => exact ⟨0, rfl, by omega, ⟨OwnB.nil _, (fun g hg => by cases hg), Nat.le_refl _⟩, Mod.refl _ _⟩
  case round =>
    obtain ⟨wi, rfl⟩ : ∃ x, x = wr := ⟨_, rfl⟩
    obtain ⟨i, rfl, hi, hB, hm⟩ := hrel
    have KB := Lib.hid hB
    have KM := Lib.hid hm
    have zi := hm.size
    clear hB hm
    by_cases hlt : i < rs.length
    · obtain ⟨g, o, rfl, hg, hcell0⟩ := HR1.out.at hlt
      have hcell : wi.cell? ⟨g, o + i, none⟩ = some rs[i].1 := KM.out.cell hcell0 (by show ¬ w.heap.size ≤ g; omega)
      have hrb : RdB w rs[i].1 rs[i].2 := HR1.out.f rs[i] (List.getElem_mem hlt)
      have HRW := Lib.hid (show RdR (fun k => k < w.heap.size) rs[i].2.length wi rs[i].1 rs[i].2 from RdR.mod ⟨hrb, hrb.block_lt, Nat.le_refl _⟩ KM.out (fun k h1 h2 => by omega))
      have HT := Lib.hid (flat_take rs i hlt)
      have hle := flat_le rs (i + 1)
      have hle2 := HFL.out
      rw [HT.out, List.length_append] at hle
      obtain ⟨q, hq⟩ : ∃ q, q = rs[i] := ⟨_, rfl⟩
      rw [← hq] at hcell HRW HT hle
      clear hcell0 hrb hq
      obtain ⟨vi, bi⟩ := q
      obtain ⟨ai, ci, rfl⟩ : ∃ ai ci, vi = .slice ai bi.length ci := HRW.out.shape
      dsimp only at hcell HRW HT hle
      obtain ⟨ab, cb, rfl⟩ := KB.out.shape
      go_wp2_with (at_builtin; go_must (refine wpList_appR rfl (.tmp 10) (.tmp 14) rfl rfl KB.out rfl HRW.out (by omega) ?_))
      intro ao5 cap5 w5 ho5 hm5
      have KB5 := Lib.hid (show OwR (fun k => w.heap.size ≤ k) (flat (rs.take (i + 1))).length w5 _ (flat (rs.take (i + 1))) from by
        rw [HT.out]
        exact ho5.widen (R' := fun k => w.heap.size ≤ k) (fun k h => by unfold New at h; omega) (by rw [List.length_append]; exact Nat.le_refl _))
      have KM5 := Lib.hid (KM.out.trans hm5 (fun k _ h => h))
      clear ho5 hm5 KB KM HT HRW hcell hle hle2
      go_wp2
      go_roundw
      case rel => exact ⟨i + 1, by go_num, by omega, KB5.out, KM5.out⟩
      case measure => first | (simp [intOf]; done) | (simp [intOf]; omega)
    · obtain rfl : i = rs.length := by omega
      have hb := KB.out
      rw [List.take_length] at hb
      have HB := Lib.hid hb
      obtain ⟨ab, cb, rfl⟩ := KB.out.shape
      clear hb KB
      go_wp2
      go_ret
      exact ⟨_, rfl, ⟨HB.out.1, (fun g hg => ⟨HB.out.2.1 g hg, Own.lt HB.out.1 hg⟩), Nat.le_refl _⟩, KM.out.mono (fun k hk h => by omega)⟩
theorem litG.rd {B K : Nat} {bs : List Int} {t : List Value} {v : Value} {w : World} (h : litG B 5 K (bs.map bv).toArray t v w) (hk : t.length ≤ K) (hb : Bytes bs) (hl : bs.length ≤ 1000000) : RdB w v bs := by
  obtain ⟨g, rfl, -, m, -, h4⟩ := h hk
  have e : (bs.map bv).toArray.size = bs.length := by simp
  rw [e]
  refine ⟨hb, Rd.mk (Nat.le_refl _) (by rw [maxLen_val]; omega) (by simp) fun j y hy => ?_⟩
  rw [Nat.zero_add]
  simp only [World.cell?, h4]
  simpa using hy
theorem StillM.obj {B K k : Nat} {w w' : World} (h : StillM B 5 K k w w') {g : Nat} {c : Array Value} {e : TypeId} (hc : Cs w g c e) (he : e ≠ 5) : Cs w' g c e := by
  rcases h with h | ⟨-, h⟩
  · exact hc.mod h (fun h => h)
  · rcases h.block g hc.lt with h1 | ⟨-, C, m, h1, -⟩
    · exact h1.trans hc
    · unfold Cs at hc
      rw [hc] at h1
      cases h1
      exact absurd rfl he
/-- an array's slice -/
theorem ex_sliceArr {P : Program} {o : Oper} {a : Act} {w : World} {T e : TypeId} {x : Operand} {g off n : Nat} (ho : o.op = .slice T x none none none) (hu : P.underlying T = some (.array n e)) (hs : (P.info? e).map (·.size) = some 1) (hx : a.eval x = .pointer (some ⟨g, off, none⟩)) (hn : 0 < n) :
    (execOp a.eval o).run P w = .ok (.value (.slice (some ⟨g, off, none⟩) n n)) w := by
  have hsz : (sizeOf e).run P w = .ok 1 w := by
    cases hq : P.info? e with
    | none => rw [hq] at hs; cases hs
    | some i => rw [hq] at hs; simp [sizeOf, typeInfo, hq]; exact Option.some.inj hs
  unfold execOp
  have h0 : ¬ n = 0 := by omega
  simp [ho, hx, Instr.sliceAt, Instr.slice, Instr.sliceBounds, asIntOf, run_underlying hu, hsz, add_mk, Instr.sureAddr, h0]
end Go.Proofs.Ytknpapcfhnhheaa

/- Bytes in regions told step by step: appends, rows of rows, strings as bytes, writers' ends. -/
set_option maxRecDepth 100000
set_option linter.unusedVariables false
namespace Go.Proofs.Ytknpapcfhnhheaa
open Go Go.RowKit Go.Gv

section
variable {ops : Array Oper} {Q : Exit → Act → World → Prop} {i : Nat} {o : Oper} {a : Act} {w : World} {KQ : Value → World → Prop} {B : Nat} {S0 Z : Nat → Prop} {t : List Value} {l : List QPred}
/-- one of the chain appends bytes -/
theorem qc_appR {s x : Operand} {R R' : Nat → Prop} {N M : Nat} {v xv : Value} {bs new : List Int} (ho : ops[i]? = some o) (hw : Region.wanted o (yielded ops a.tmps) = true) (hop : o.op = .call { callee := .builtin .append, args := #[s, x], argTypes := #[38, 38] })
    (hs : a.eval s = v) (hx : a.eval x = xv) (hown : OwR R N w v bs) (hrd : RdR R' M w xv new) (hroom : (bs ++ new).length ≤ 900000)
    (h : ∀ ao cap w', OwR (fun k => R k ∨ New w w' k) 900000 w' (.slice ao (bs.length + new.length) cap) (bs ++ new) → Mod R w w' → KQ (.slice ao (bs.length + new.length) cap) w') : wpOp Try.prog ops Q i (fun a' w' => ∃ v, a' = a.put o.dst v ∧ KQ v w') a w := by
  obtain ⟨i0, hi, hz0, hz1, hz2⟩ := info_parts info_u8
  have hlen : bs.length + new.length ≤ 900000 := by simpa using hroom
  obtain ⟨ao, cap, w', hr, h1, h2, h3⟩ := run_append (P := Try.prog) w 38 o.type 5 i0 (.int .u8 0) 1 1 Try.underlying38 hi hz0 hz1 hz2 rfl (by decide) IsB_zero v _ _ hown.1 xv new.length (new.map bv) hrd.1.2 (isB_all hrd.1.1) (ints_oneCell .u8 new) (by omega) (by rw [maxLen_val]; omega)
  refine qc_run ho hw (ex_append hop hs hx hr) (h ao cap w' ⟨?_, (fun g hg => ?_), hroom⟩ (h2.mono (fun k _ hk => hown.2.1 k hk.symm)))
  · unfold OwnB
    rw [List.length_append, List.map_append]
    exact h1
  · rcases h3 with h3 | ⟨k, h3, hk⟩
    · exact .inl (hown.2.1 g (h3 ▸ hg))
    · rw [h3] at hg
      obtain rfl : k = g := by simpa using hg
      exact .inr ⟨hk, Own.lt h1 h3⟩
/-- one of the chain makes a row of rows -/
theorem qc_rows {ts : TypeId} {n : Nat} {parts : Array (Nat × Operand)} (ho : ops[i]? = some o) (hw : Region.wanted o (yielded ops a.tmps) = true) (hop : o.op = .buildSlice ts n parts) (hu : Try.prog.underlying ts = some (.slice 38)) (hn : n ≠ 0 ∧ n ≤ 1000) {C : Array Value}
    (hf : Instr.fill (fun i => some (i * 1, 1)) ((Array.range (n * 1)).map (#[Value.slice none 0 0][· % 1]!)) (parts.map fun (i, x) => (i, a.eval x)).toList = some C)
    (h : ∀ w', Cs w' w.heap.size C 38 → Mod (fun _ => False) w w' → KQ (.slice (some ⟨w.heap.size, 0, none⟩) n n) w') : wpOp Try.prog ops Q i (fun a' w' => ∃ v, a' = a.put o.dst v ∧ KQ v w') a w :=
  qc_run ho hw (ex_buildSl hop hu (by kernel_rfl) hn hf) (h _ (Cs.new _ _ _) ((Mod.refl _ _).alloc _))
theorem Join_Q {g n : Nat} {C : Array Value} {e : TypeId} (hc : Cs w g C e) (rs : List (Value × List Int)) (hC : C = (rs.map (·.1)).toArray) (hn : n = rs.length) (h : ∀ p ∈ rs, RdB w p.1 p.2) (hl2 : rs.length ≤ 1000) {bs : List Int} (hb : flat rs = bs) (hl : bs.length ≤ 900000) :
    Calls Try.prog 68 #[.slice (some ⟨g, 0, none⟩) n n] w fun e w' => ∃ v', e = .returned v' ∧ OwR (New w w') 900000 w' v' bs ∧ Mod (fun _ => False) w w' := by
  subst hb
  have hj : RdJ w (.slice (some ⟨g, 0, none⟩) n n) rs := by
    refine ⟨?_, h⟩
    subst hn
    refine Rd.mk (Nat.le_refl _) (by rw [maxLen_val]; omega) (by simp) fun j y hy => ?_
    rw [Nat.zero_add, hc.cell, hC]
    simpa using hy
  exact (Join_any _ rs w hj hl2 hl).mono fun e w' ⟨v', he, ho, hm⟩ => ⟨v', he, ho.widen (fun _ h => h) hl, hm⟩
theorem ql.rd {bs : List Int} {v : Value} (hb : Bytes bs) (h : ql B 5 (bs.map bv).toArray Z t v w) (hl : bs.length ≤ 1000000) : ∃ R : Nat → Prop, (∀ j, R j → B ≤ j ∧ ¬ Z j ∧ j < w.heap.size) ∧ RdR R bs.length w v bs := by
  obtain ⟨g, rfl, hB, hZ, m, h4⟩ := h
  have e : (bs.map bv).toArray.size = bs.length := by simp
  refine ⟨fun k => k = g, fun j hj => by subst hj; exact ⟨hB, hZ, (Array.getElem?_eq_some_iff.1 h4).1⟩, ⟨hb, ?_⟩, fun _ k hk => by cases hk; rfl, Nat.le_refl _⟩
  rw [e]
  refine Rd.mk (Nat.le_refl _) (by rw [maxLen_val]; omega) (by simp) fun j y hy => ?_
  rw [Nat.zero_add]
  simp only [World.cell?, h4]
  simpa using hy
end
end Go.Proofs.Ytknpapcfhnhheaa

/- Copies and cuts of lists of things. -/
set_option maxRecDepth 100000
set_option linter.unusedVariables false
namespace Go.Proofs.Ytknpapcfhnhheaa
open Go Go.RowKit Go.Gv

theorem info_St : (Try.prog.info? 30).map (fun i => (i.zero, i.size, i.bytes)) = some (some (.agg #[.int .i64 0, .int .i64 0, .int .i64 0, .int .u8 0, .int .u8 0, .int .u8 0, .int .u8 0, .int .u8 0, .int .u8 0, .int .u8 0, .int .u8 0, .int .u8 0, .int .u8 0, .int .u8 0, .int .u8 0, .int .u8 0, .int .u8 0, .int .u8 0, .int .u8 0, .int .u8 0, .int .u8 0, .int .u8 0, .int .u8 0, .int .u8 0, .int .u8 0, .int .u8 0, .int .u8 0, .int .u8 0, .int .u8 0, .int .u8 0, .int .u8 0, .int .u8 0, .int .u8 0, .int .u8 0, .int .u8 0, .int .u64 0, .int .i64 0, .int .i64 0]), 38, 80) := by kernel_rfl
theorem info_Dn : (Try.prog.info? 34).map (fun i => (i.zero, i.size, i.bytes)) = some (some (.agg #[.int .i64 0, .int .i64 0, .int .i64 0, .int .i64 0]), 4, 32) := by kernel_rfl
theorem info_Ce : (Try.prog.info? 52).map (fun i => (i.zero, i.size, i.bytes)) = some (some (.agg #[.int .i64 0, .int .i64 0, .int .u8 0, .int .u8 0, .int .u8 0, .int .u8 0, .int .u8 0, .int .u8 0, .int .u8 0, .int .u8 0, .int .u8 0, .int .u8 0, .int .u8 0, .int .u8 0, .int .u8 0, .int .u8 0, .int .u8 0, .int .u8 0, .int .u8 0, .int .u8 0, .int .u8 0, .int .u8 0, .int .u8 0, .int .u8 0, .int .u8 0, .int .u8 0, .int .u8 0, .int .u8 0, .int .u8 0, .int .u8 0, .int .u8 0, .int .u8 0, .int .u8 0, .int .u8 0, .int .i64 0, .int .i64 0, .int .i64 0, .slice none 0 0]), 38, 96) := by kernel_rfl
theorem info_Pm : (Try.prog.info? 55).map (fun i => (i.zero, i.size, i.bytes)) = some (some (.agg #[.int .i64 0, .int .i64 0, .int .u64 0, .slice none 0 0, .int .i64 0, .int .i64 0]), 6, 64) := by kernel_rfl
theorem info_Op : (Try.prog.info? 87).map (fun i => (i.zero, i.size, i.bytes)) = some (some (.agg #[.int .i64 0, .slice none 0 0, .int .u8 0, .int .u8 0, .int .u8 0, .int .u8 0, .int .u8 0, .int .u8 0, .int .u8 0, .int .u8 0, .int .u8 0, .int .u8 0, .int .u8 0, .int .u8 0, .int .u8 0, .int .u8 0, .int .u8 0, .int .u8 0, .int .u8 0, .int .u8 0, .int .u8 0, .int .u8 0, .int .u8 0, .int .u8 0, .int .u8 0, .int .u8 0, .int .u8 0, .int .u8 0, .int .u8 0, .int .u8 0, .int .u8 0, .int .u8 0, .int .u8 0, .int .u8 0]), 34, 64) := by kernel_rfl
theorem info_Tb : (Try.prog.info? 90).map (fun i => (i.zero, i.size, i.bytes)) = some (some (.agg #[.int .i64 0, .slice none 0 0]), 2, 32) := by kernel_rfl

/-- a function that copies a list of things; one that cuts it -/
def CopiesS {α : Type} (A : Rep α) (e : TypeId) (F : FuncId) : Prop := ∀ (R2 : Nat → Prop) (v : Value) (l : List α) (w : World), RdS A R2 w v l → (∀ k, R2 k → k < w.heap.size) → l.length ≤ 1000000 →
  Calls Try.prog F #[v] w fun e' w' => ∃ v', e' = .returned v' ∧ OwS A e (New w w') R2 w' v' l ∧ Mod (fun _ => False) w w'
def CutsS {α : Type} (A : Rep α) (e : TypeId) (F : FuncId) : Prop := ∀ (R2 : Nat → Prop) (v : Value) (l : List α) (n : Nat) (w : World), RdS A R2 w v l → (∀ k, R2 k → k < w.heap.size) → n ≤ 1000000 →
  Calls Try.prog F #[v, .int .i64 (n : Int)] w fun e' w' => ∃ v', e' = .returned v' ∧ OwS A e (New w w') R2 w' v' (l.take n) ∧ Mod (fun _ => False) w w'
set_option maxHeartbeats 2000000 in
theorem Copy_St : CopiesS StR 30 101 := by
  intro R2 v l w hs hB2 hl
  obtain ⟨ao, cap, rfl⟩ := hs.shape
  have HS := Lib.hid hs
  have HBT := Lib.hid hB2
  clear hs hB2
  go_enter Try.func101, Try.ntmps101
  go_upto_region 1 with (fail)
  have HM0 := hid (Mod.refl (fun _ => False) w)
  go_upto_region 1 with (fail)
  generalize ha0 : Act.mk _ _ = a0
  have oe0 : a0.eval (.tmp 0) = .slice ao l.length cap := by rw [← ha0]; rfl
  have hsz0 : a0.tmps.size = 5 := by rw [← ha0]; rfl
  have HA0 := hid ha0
  clear ha0
  refine wp_region_Q0 5 hsz0 [3, 4, 2] [qi (.slice ao l.length cap), qv 0, qv 0] ⟨qi_stable, qv_stable, qv_stable, trivial⟩ [1] ⟨?_, ?_, ?_, trivial⟩ ?_
  · exact stq (fun E => ex_move rfl (E.v oe0))
  · exact stepq_chain rfl
  · refine stepq_env rfl rfl rfl fun _ _ _ _ _ _ _ _ _ hd _ _ => ?_
    have h1 := hd ⟨1, .data⟩ (by simp) rfl _ rfl
    exact qe_run rfl (wanted_none rfl) (ex_assign rfl rfl) QE.refl h1
  intro u1_0 hr
  have zu1_0 := hr.size
  have Cx1 := hid (hr.new (S := (fun _ => False)))
  clear hr
  refine QChain.go fun Z act E => ?_
  refine qc_appS (A := StR) (e := 30) rfl (wanted_none rfl) rfl (.agg #[.int .i64 0, .int .i64 0, .int .i64 0, .int .u8 0, .int .u8 0, .int .u8 0, .int .u8 0, .int .u8 0, .int .u8 0, .int .u8 0, .int .u8 0, .int .u8 0, .int .u8 0, .int .u8 0, .int .u8 0, .int .u8 0, .int .u8 0, .int .u8 0, .int .u8 0, .int .u8 0, .int .u8 0, .int .u8 0, .int .u8 0, .int .u8 0, .int .u8 0, .int .u8 0, .int .u8 0, .int .u8 0, .int .u8 0, .int .u8 0, .int .u8 0, .int .u8 0, .int .u8 0, .int .u8 0, .int .u8 0, .int .u64 0, .int .i64 0, .int .i64 0]) 80 Try.underlying50 info_St (by rfl) (of_decide_eq_true (by kernel_rfl)) rfl (E.d 0) (OwS.nil _ _ (fun _ => False) (fun _ => False) _) ((HS.out.mod Cx1.out (fun _ _ h => h))) (fun _ _ h => h) (by simp only [List.length_nil]; omega) (by simp only [List.length_nil]; rw [maxLen_val]; omega) ?_
  intro ao1 cap1 u1_1a qout hm
  have zu1_1a := hm.size
  refine ⟨hm.mono (fun _ _ h => h.elim), (fun _ => rfl), ?_⟩
  intro u1_1 hr
  have zu1_1 := hr.size
  have Hx2 := hid ((qout.widen (R' := (fun k => (New u1_0 u1_1a k))) (E' := (fun k => (R2 k))) (fun _ h => h.elim (fun h => h.elim) (fun h => h)) (by intro k h1; rcases h1 with h1 | h1 <;> first | omega | exact h1.elim | exact h1)).mod hr (by intro k h1 h2; omega) (by intro k h1 h2; have hb := HBT.out k h1; omega))
  have Cx3 := hid (Cx1.out.go hm hr)
  clear Cx1 hm hr Z act E qout
  refine QChain.nil fun vs hl hzz hrows hne => ?_
  obtain ⟨Z, hYZ, hZb, hV⟩ := hzz
  have f0 := fvi hV hl 0
  have f1 := fvc hV hl 1
  have f2 := fvc hV hl 2
  rw [show vs = [gw vs 0, gw vs 1, gw vs 2] from (gw_eta hl).trans rfl]
  have ha0 := HA0.out
  subst ha0
  clear HA0 hV hYZ hZb hsz0 hrows hne oe0
  simp only [putAll, Act.put, List.setIfInBounds_toArray, List.set_cons_zero, List.set_cons_succ, f0, f1, f2]
  clear hl f0 f1 f2
  go_wp2
  go_ret
  have hq := Hx2.out
  exact ⟨_, rfl, hq.widen (by intro k h; omega) (by intro k h; exact h), (HM0.out.trans Cx3.out (fun _ _ h => h.elim))⟩
set_option maxHeartbeats 2000000 in
theorem Copy_Dn : CopiesS DnR 34 93 := by
  intro R2 v l w hs hB2 hl
  obtain ⟨ao, cap, rfl⟩ := hs.shape
  have HS := Lib.hid hs
  have HBT := Lib.hid hB2
  clear hs hB2
  go_enter Try.func93, Try.ntmps93
  go_upto_region 1 with (fail)
  have HM0 := hid (Mod.refl (fun _ => False) w)
  go_upto_region 1 with (fail)
  generalize ha0 : Act.mk _ _ = a0
  have oe0 : a0.eval (.tmp 0) = .slice ao l.length cap := by rw [← ha0]; rfl
  have hsz0 : a0.tmps.size = 5 := by rw [← ha0]; rfl
  have HA0 := hid ha0
  clear ha0
  refine wp_region_Q0 5 hsz0 [3, 4, 2] [qi (.slice ao l.length cap), qv 0, qv 0] ⟨qi_stable, qv_stable, qv_stable, trivial⟩ [1] ⟨?_, ?_, ?_, trivial⟩ ?_
  · exact stq (fun E => ex_move rfl (E.v oe0))
  · exact stepq_chain rfl
  · refine stepq_env rfl rfl rfl fun _ _ _ _ _ _ _ _ _ hd _ _ => ?_
    have h1 := hd ⟨1, .data⟩ (by simp) rfl _ rfl
    exact qe_run rfl (wanted_none rfl) (ex_assign rfl rfl) QE.refl h1
  intro u1_0 hr
  have zu1_0 := hr.size
  have Cx1 := hid (hr.new (S := (fun _ => False)))
  clear hr
  refine QChain.go fun Z act E => ?_
  refine qc_appS (A := DnR) (e := 34) rfl (wanted_none rfl) rfl (.agg #[.int .i64 0, .int .i64 0, .int .i64 0, .int .i64 0]) 32 Try.underlying88 info_Dn (by rfl) (of_decide_eq_true (by kernel_rfl)) rfl (E.d 0) (OwS.nil _ _ (fun _ => False) (fun _ => False) _) ((HS.out.mod Cx1.out (fun _ _ h => h))) (fun _ _ h => h) (by simp only [List.length_nil]; omega) (by simp only [List.length_nil]; rw [maxLen_val]; omega) ?_
  intro ao1 cap1 u1_1a qout hm
  have zu1_1a := hm.size
  refine ⟨hm.mono (fun _ _ h => h.elim), (fun _ => rfl), ?_⟩
  intro u1_1 hr
  have zu1_1 := hr.size
  have Hx2 := hid ((qout.widen (R' := (fun k => (New u1_0 u1_1a k))) (E' := (fun k => (R2 k))) (fun _ h => h.elim (fun h => h.elim) (fun h => h)) (by intro k h1; rcases h1 with h1 | h1 <;> first | omega | exact h1.elim | exact h1)).mod hr (by intro k h1 h2; omega) (by intro k h1 h2; have hb := HBT.out k h1; omega))
  have Cx3 := hid (Cx1.out.go hm hr)
  clear Cx1 hm hr Z act E qout
  refine QChain.nil fun vs hl hzz hrows hne => ?_
  obtain ⟨Z, hYZ, hZb, hV⟩ := hzz
  have f0 := fvi hV hl 0
  have f1 := fvc hV hl 1
  have f2 := fvc hV hl 2
  rw [show vs = [gw vs 0, gw vs 1, gw vs 2] from (gw_eta hl).trans rfl]
  have ha0 := HA0.out
  subst ha0
  clear HA0 hV hYZ hZb hsz0 hrows hne oe0
  simp only [putAll, Act.put, List.setIfInBounds_toArray, List.set_cons_zero, List.set_cons_succ, f0, f1, f2]
  clear hl f0 f1 f2
  go_wp2
  go_ret
  have hq := Hx2.out
  exact ⟨_, rfl, hq.widen (by intro k h; omega) (by intro k h; exact h), (HM0.out.trans Cx3.out (fun _ _ h => h.elim))⟩
set_option maxHeartbeats 2000000 in
theorem Cut_St : CutsS StR 30 72 := by
  intro R2 v l n w hs hB2 hn
  obtain ⟨css, k1, k2, ⟨k3, ao, cap, rfl, hlc, hcm, k5, k6⟩, k7⟩ := id hs
  clear k1 k2 k3 k5 k6 k7
  rw [maxLen_val] at hcm
  have HS := Lib.hid hs
  have HBT := Lib.hid hB2
  clear hs hB2
  clear css
  go_enter Try.func72, Try.ntmps72
  go_upto_region 1 with (fail)
  have HM0 := hid (Mod.refl (fun _ => False) w)
  go_upto_region 1 with (fail)
  generalize ha0 : Act.mk _ _ = a0
  have oe0 : a0.eval (.tmp 0) = .slice ao l.length cap := by rw [← ha0]; rfl
  have oe1 : a0.eval (.tmp 1) = .int .i64 ((n : Nat) : Int) := by rw [← ha0]; rfl
  have hsz0 : a0.tmps.size = 12 := by rw [← ha0]; rfl
  have HA0 := hid ha0
  clear ha0
  refine wp_region_Q0 12 hsz0 [5, 6, 7, 8, 9, 10, 11, 4] [qi (.slice ao l.length cap), qi (.slice ao l.length cap), qi (.int .i64 l.length), qi (.int .i64 ((n : Nat) : Int)), qi (.int .i64 ((min l.length n : Nat) : Int)), qi (.slice ao (min l.length n) cap), qv 0, qv 0] ⟨qi_stable, qi_stable, qi_stable, qi_stable, qi_stable, qi_stable, qv_stable, qv_stable, trivial⟩ [6] ⟨?_, ?_, ?_, ?_, ?_, ?_, ?_, ?_, trivial⟩ ?_
  · exact stq (fun E => ex_move rfl (E.v oe0))
  · exact stq (fun E => ex_move rfl (E.v oe0))
  · exact stq (fun E => ex_lenS rfl (E.d 1) Try.underlying50)
  · exact stq (fun E => ex_move rfl (E.v oe1))
  · exact stq (fun E => ex_min (r := ((min l.length n : Nat) : Int)) rfl (E.d 2) (E.d 3) (by split <;> omega))
  · exact stq (fun E => ex_sliceTo (i := min l.length n) (s := 38) rfl Try.underlying50 (by kernel_rfl) (E.d 0) (E.d 4) (by omega))
  · exact stepq_chain rfl
  · refine stepq_env rfl rfl rfl fun _ _ _ _ _ _ _ _ _ hd _ _ => ?_
    have h6 := hd ⟨6, .data⟩ (by simp) rfl _ rfl
    exact qe_run rfl (wanted_none rfl) (ex_assign rfl rfl) QE.refl h6
  intro u1_0 hr
  have zu1_0 := hr.size
  have Cx1 := hid (hr.new (S := (fun _ => False)))
  clear hr
  refine QChain.go fun Z act E => ?_
  refine qc_callF (args := #[.slice ao (min l.length n) cap]) rfl (wanted_none rfl) rfl Try.func101 (args1 (E.d 5)) (Copy_St _ _ (l.take (min l.length n)) _ ((HS.out.mod Cx1.out (fun _ _ h => h)).upto (min l.length n) (by omega)) (by intro k h1; have hb := HBT.out k h1; omega) (by simp; omega)) ?_
  rintro e u1_1a ⟨v', rfl, qout, hm⟩
  have zu1_1a := hm.size
  refine ⟨_, rfl, hm.mono (fun _ _ h => h.elim), (fun _ => rfl), ?_⟩
  intro u1_1 hr
  have zu1_1 := hr.size
  have Hx2 := hid ((qout.widen (R' := (fun k => (New u1_0 u1_1a k))) (E' := (fun k => (R2 k))) (fun _ h => h) (fun _ h => h)).mod hr (by intro k h1 h2; omega) (by intro k h1 h2; have hb := HBT.out k h1; omega))
  have Cx3 := hid (Cx1.out.go hm hr)
  clear Cx1 hm hr Z act E qout
  refine QChain.nil fun vs hl hzz hrows hne => ?_
  obtain ⟨Z, hYZ, hZb, hV⟩ := hzz
  have f0 := fvi hV hl 0
  have f1 := fvi hV hl 1
  have f2 := fvi hV hl 2
  have f3 := fvi hV hl 3
  have f4 := fvi hV hl 4
  have f6 := fvc hV hl 6
  have f7 := fvc hV hl 7
  rw [show vs = [gw vs 0, gw vs 1, gw vs 2, gw vs 3, gw vs 4, gw vs 5, gw vs 6, gw vs 7] from (gw_eta hl).trans rfl]
  have ha0 := HA0.out
  subst ha0
  clear HA0 hV hYZ hZb hsz0 hrows hne oe0 oe1
  simp only [putAll, Act.put, List.setIfInBounds_toArray, List.set_cons_zero, List.set_cons_succ, f0, f1, f2, f3, f4, f6, f7]
  clear hl f0 f1 f2 f3 f4 f6 f7
  go_wp2
  go_ret
  have hq := Hx2.out
  rw [show l.take (min l.length n) = l.take n by rw [Nat.min_comm, ← List.take_take, List.take_length]] at hq
  exact ⟨v', rfl, hq.widen (by intro k h; omega) (fun _ h => h), (HM0.out.trans Cx3.out (fun _ _ h => h.elim))⟩
set_option maxHeartbeats 2000000 in
theorem Cut_Dn : CutsS DnR 34 78 := by
  intro R2 v l n w hs hB2 hn
  obtain ⟨css, k1, k2, ⟨k3, ao, cap, rfl, hlc, hcm, k5, k6⟩, k7⟩ := id hs
  clear k1 k2 k3 k5 k6 k7
  rw [maxLen_val] at hcm
  have HS := Lib.hid hs
  have HBT := Lib.hid hB2
  clear hs hB2
  clear css
  go_enter Try.func78, Try.ntmps78
  go_upto_region 1 with (fail)
  have HM0 := hid (Mod.refl (fun _ => False) w)
  go_upto_region 1 with (fail)
  generalize ha0 : Act.mk _ _ = a0
  have oe0 : a0.eval (.tmp 0) = .slice ao l.length cap := by rw [← ha0]; rfl
  have oe1 : a0.eval (.tmp 1) = .int .i64 ((n : Nat) : Int) := by rw [← ha0]; rfl
  have hsz0 : a0.tmps.size = 12 := by rw [← ha0]; rfl
  have HA0 := hid ha0
  clear ha0
  refine wp_region_Q0 12 hsz0 [5, 6, 7, 8, 9, 10, 11, 4] [qi (.slice ao l.length cap), qi (.slice ao l.length cap), qi (.int .i64 l.length), qi (.int .i64 ((n : Nat) : Int)), qi (.int .i64 ((min l.length n : Nat) : Int)), qi (.slice ao (min l.length n) cap), qv 0, qv 0] ⟨qi_stable, qi_stable, qi_stable, qi_stable, qi_stable, qi_stable, qv_stable, qv_stable, trivial⟩ [6] ⟨?_, ?_, ?_, ?_, ?_, ?_, ?_, ?_, trivial⟩ ?_
  · exact stq (fun E => ex_move rfl (E.v oe0))
  · exact stq (fun E => ex_move rfl (E.v oe0))
  · exact stq (fun E => ex_lenS rfl (E.d 1) Try.underlying88)
  · exact stq (fun E => ex_move rfl (E.v oe1))
  · exact stq (fun E => ex_min (r := ((min l.length n : Nat) : Int)) rfl (E.d 2) (E.d 3) (by split <;> omega))
  · exact stq (fun E => ex_sliceTo (i := min l.length n) (s := 4) rfl Try.underlying88 (by kernel_rfl) (E.d 0) (E.d 4) (by omega))
  · exact stepq_chain rfl
  · refine stepq_env rfl rfl rfl fun _ _ _ _ _ _ _ _ _ hd _ _ => ?_
    have h6 := hd ⟨6, .data⟩ (by simp) rfl _ rfl
    exact qe_run rfl (wanted_none rfl) (ex_assign rfl rfl) QE.refl h6
  intro u1_0 hr
  have zu1_0 := hr.size
  have Cx1 := hid (hr.new (S := (fun _ => False)))
  clear hr
  refine QChain.go fun Z act E => ?_
  refine qc_callF (args := #[.slice ao (min l.length n) cap]) rfl (wanted_none rfl) rfl Try.func93 (args1 (E.d 5)) (Copy_Dn _ _ (l.take (min l.length n)) _ ((HS.out.mod Cx1.out (fun _ _ h => h)).upto (min l.length n) (by omega)) (by intro k h1; have hb := HBT.out k h1; omega) (by simp; omega)) ?_
  rintro e u1_1a ⟨v', rfl, qout, hm⟩
  have zu1_1a := hm.size
  refine ⟨_, rfl, hm.mono (fun _ _ h => h.elim), (fun _ => rfl), ?_⟩
  intro u1_1 hr
  have zu1_1 := hr.size
  have Hx2 := hid ((qout.widen (R' := (fun k => (New u1_0 u1_1a k))) (E' := (fun k => (R2 k))) (fun _ h => h) (fun _ h => h)).mod hr (by intro k h1 h2; omega) (by intro k h1 h2; have hb := HBT.out k h1; omega))
  have Cx3 := hid (Cx1.out.go hm hr)
  clear Cx1 hm hr Z act E qout
  refine QChain.nil fun vs hl hzz hrows hne => ?_
  obtain ⟨Z, hYZ, hZb, hV⟩ := hzz
  have f0 := fvi hV hl 0
  have f1 := fvi hV hl 1
  have f2 := fvi hV hl 2
  have f3 := fvi hV hl 3
  have f4 := fvi hV hl 4
  have f6 := fvc hV hl 6
  have f7 := fvc hV hl 7
  rw [show vs = [gw vs 0, gw vs 1, gw vs 2, gw vs 3, gw vs 4, gw vs 5, gw vs 6, gw vs 7] from (gw_eta hl).trans rfl]
  have ha0 := HA0.out
  subst ha0
  clear HA0 hV hYZ hZb hsz0 hrows hne oe0 oe1
  simp only [putAll, Act.put, List.setIfInBounds_toArray, List.set_cons_zero, List.set_cons_succ, f0, f1, f2, f3, f4, f6, f7]
  clear hl f0 f1 f2 f3 f4 f6 f7
  go_wp2
  go_ret
  have hq := Hx2.out
  rw [show l.take (min l.length n) = l.take n by rw [Nat.min_comm, ← List.take_take, List.take_length]] at hq
  exact ⟨v', rfl, hq.widen (by intro k h; omega) (fun _ h => h), (HM0.out.trans Cx3.out (fun _ _ h => h.elim))⟩
end Go.Proofs.Ytknpapcfhnhheaa

/- Small parts of messages, read. -/
set_option maxRecDepth 100000
set_option linter.unusedVariables false
namespace Go.Proofs.Ytknpapcfhnhheaa
open Go Go.RowKit Go.Gv

set_option maxHeartbeats 2000000 in
theorem cSig_Q : GetsF 125 118 (fun x : Int × Int => [.int .i64 x.1, .int .i64 x.2]) gSig := by
  intro R r s w hR hB
  have HRD := Lib.hid hR
  have HBR := Lib.hid hB
  have HBY := hid hR.bytes
  clear hR hB
  go_enter Try.func118, Try.ntmps118
  go_upto_region 1 with (fail)
  obtain ⟨w1, hw1⟩ : ∃ zz, zz = (w.alloc (.cells #[.int .i64 0, .int .i64 0] 28)) := ⟨_, rfl⟩
  change Code.wp _ _ _ _ (w.alloc (.cells #[.int .i64 0, .int .i64 0] 28))
  rw [← hw1]
  have HB2 := hid (show Cs w1 (w.heap.size) #[.int .i64 0, .int .i64 0] 28 by rw [hw1]; exact Cs.new _ _ _)
  have hm : Mod (fun _ => False) w w1 := by rw [hw1]; exact (Mod.refl _ _).alloc _
  have HM0 := hid (show Mod (fun k => (R k)) w w1 from hm.mono (fun _ _ h => h.elim))
  have hs1 : w1.heap.size = w.heap.size + 1 := by rw [hw1]; simp
  have Hx1 := hid (HRD.out.mod hm (fun _ _ h => h))
  clear HRD
  clear hw1 hm
  go_upto_region 1 with (fail)
  generalize ha0 : Act.mk _ _ = a0
  have oe0 : a0.eval (.tmp 0) = .pointer (some ⟨r, 0, none⟩) := by rw [← ha0]; rfl
  have oe2 : a0.eval (.tmp 2) = .pointer (some ⟨w.heap.size, 0, none⟩) := by rw [← ha0]; rfl
  have hsz0 : a0.tmps.size = 8 := by rw [← ha0]; rfl
  have HA0 := hid ha0
  clear ha0
  refine wp_region_S 8 hsz0 [3, 4, 5, 6, 7, 13] [0, 1, 2, 3, 4, 5] ?_
  refine QSeq.pure rfl (.pointer (some ⟨r, 0, none⟩)) (fun E => ex_move rfl (E.v oe0)) ?_
  refine QSeq.go fun act E => ?_
  refine qc_callF (args := #[.pointer (some ⟨r, 0, none⟩), .int .i64 1099511627776]) rfl (wanted_none rfl) rfl Try.func115 (args2 (E.d 0 0) rfl) (cI_Q Hx1.out) ?_
  rintro e u1_1 ⟨rfl, qrd, hm⟩
  refine ⟨_, rfl, ?_⟩
  have Hx2 := hid qrd
  have zu1_1 := hm.size
  have Cx3 := hid (show Mod (fun k => (R k)) w1 u1_1 from hm)
  clear hm
  clear act E qrd Hx1
  refine QSeq.pure rfl (.pointer (some ⟨r, 0, none⟩)) (fun E => ex_move rfl (E.v oe0)) ?_
  refine QSeq.go fun act E => ?_
  refine qc_callF (args := #[.pointer (some ⟨r, 0, none⟩), .int .i64 1099511627776]) rfl (wanted_none rfl) rfl Try.func115 (args2 (E.d 2 0) rfl) (cI_Q Hx2.out) ?_
  rintro e u1_3 ⟨rfl, qrd, hm⟩
  refine ⟨_, rfl, ?_⟩
  have Hx4 := hid qrd
  have zu1_3 := hm.size
  have HMu1_3 := hid hm
  have Cx5 := hid (Mod.goS (S' := (fun k => (R k))) Cx3.out hm (fun _ h => h) (by intro k h0 h2; exact h2))
  clear hm Cx3
  clear act E qrd Hx2
  refine QSeq.go fun act E => ?_
  refine qc_run rfl (wanted_none rfl) (v := .agg #[.int .i64 (gSig s).1.1, .int .i64 (gSig s).1.2]) (ex_build rfl (z := [.int .i64 0, .int .i64 0]) (places := [(0, 1), (1, 1)]) (by kernel_rfl) (parts := [(0, .int .i64 (gI s).1), (1, .int .i64 (gI (gI s).2).1)]) (by simp only [List.map_toArray, List.map_cons, List.map_nil, show act.eval (.tmp 4) = .int .i64 (gI s).1 from (E.d 1 2), show act.eval (.tmp 6) = .int .i64 (gI (gI s).2).1 from (E.d 3 0)]; try rfl) (r := [.int .i64 (gSig s).1.1, .int .i64 (gSig s).1.2]) (by exact laid_segs (ns := [1, 1]) rfl [(0, .int .i64 (gI s).1), (1, .int .i64 (gI (gI s).2).1)] [[.int .i64 0], [.int .i64 0]] rfl ⟨rfl, rfl, trivial⟩)) ?_
  clear act E
  refine QSeq.go fun act E => ?_
  refine qc_store rfl (wanted_none rfl) rfl (HB2.out.mod Cx5.out (by intro h2; first | omega | (have hb := HBR.out _ h2; omega))) (off := 0) (vs := ([.int .i64 (gSig s).1.1, .int .i64 (gSig s).1.2])) (by kernel_rfl) (by intro u hu; simp at hu; rcases hu with rfl | rfl <;> rfl) (by simp) (E.v oe2) (by rw [show act.eval ((.tmp 7)) = _ from (E.d 4 0)]; rfl) ?_
  intro u1_5 qc0 hm
  have qB2 : Cs u1_5 (w.heap.size) (([.int .i64 (gSig s).1.1, .int .i64 (gSig s).1.2]) : List Value).toArray 28 := by rw [show lay _ 0 _ = (([.int .i64 (gSig s).1.1, .int .i64 (gSig s).1.2]) : List Value).toArray from lay_whole #[.int .i64 0, .int .i64 0] _ rfl] at qc0; exact qc0
  clear qc0
  have Hx6 := hid qB2
  have zu1_5 := hm.size
  have HMu1_5 := hid hm
  have Cx7 := hid (Mod.goS (S' := (fun k => (R k) ∨ (k = w.heap.size))) Cx5.out hm (fun _ h => Or.inl h) (by intro k h0 h2; exact Or.inr (h2)))
  clear hm Cx5
  clear act E qB2 HB2
  have Hx8 := hid (Hx4.out.mod HMu1_5.out (by intro k h1 h2; have hb := HBR.out k h1; omega))
  clear Hx4 HMu1_3 HMu1_5
  refine QSeq.nil (t' := [_, _, _, _, _, _]) rfl ?_
  have ha0 := HA0.out
  subst ha0
  clear HA0 hsz0 oe0 oe2
  simp only [putAll, Act.put, List.setIfInBounds_toArray, List.set_cons_zero, List.set_cons_succ, List.set_nil]
  go_wp2
  exact bodyPost_ret (results_cellA rfl _ _ w.heap.size ([.int .i64 (gSig s).1.1, .int .i64 (gSig s).1.2]) rfl (fun k u hu => by rw [Hx6.out.cell]; simpa using hu) Try.underlying28 rfl (by kernel_rfl)) rfl ⟨rfl, Hx8.out, (HM0.out.trans Cx7.out (by intro k h1 h2; rcases h2 with h2 | h2 <;> first | exact h2 | omega | (have hb := HBR.out k h2; omega)))⟩
set_option maxHeartbeats 2000000 in
theorem cName_Q : GetsF 125 143 (fun x : Int × Int => [.int .i64 x.1, .int .i64 x.2]) gSig := by
  intro R r s w hR hB
  have HRD := Lib.hid hR
  have HBR := Lib.hid hB
  have HBY := hid hR.bytes
  clear hR hB
  go_enter Try.func143, Try.ntmps143
  go_upto_region 1 with (fail)
  obtain ⟨w1, hw1⟩ : ∃ zz, zz = (w.alloc (.cells #[.int .i64 0, .int .i64 0] 23)) := ⟨_, rfl⟩
  change Code.wp _ _ _ _ (w.alloc (.cells #[.int .i64 0, .int .i64 0] 23))
  rw [← hw1]
  have HB2 := hid (show Cs w1 (w.heap.size) #[.int .i64 0, .int .i64 0] 23 by rw [hw1]; exact Cs.new _ _ _)
  have hm : Mod (fun _ => False) w w1 := by rw [hw1]; exact (Mod.refl _ _).alloc _
  have HM0 := hid (show Mod (fun k => (R k)) w w1 from hm.mono (fun _ _ h => h.elim))
  have hs1 : w1.heap.size = w.heap.size + 1 := by rw [hw1]; simp
  have Hx1 := hid (HRD.out.mod hm (fun _ _ h => h))
  clear HRD
  clear hw1 hm
  go_upto_region 1 with (fail)
  generalize ha0 : Act.mk _ _ = a0
  have oe0 : a0.eval (.tmp 0) = .pointer (some ⟨r, 0, none⟩) := by rw [← ha0]; rfl
  have oe2 : a0.eval (.tmp 2) = .pointer (some ⟨w.heap.size, 0, none⟩) := by rw [← ha0]; rfl
  have hsz0 : a0.tmps.size = 8 := by rw [← ha0]; rfl
  have HA0 := hid ha0
  clear ha0
  refine wp_region_S 8 hsz0 [3, 4, 5, 6, 7, 13] [0, 1, 2, 3, 4, 5] ?_
  refine QSeq.pure rfl (.pointer (some ⟨r, 0, none⟩)) (fun E => ex_move rfl (E.v oe0)) ?_
  refine QSeq.go fun act E => ?_
  refine qc_callF (args := #[.pointer (some ⟨r, 0, none⟩), .int .i64 1099511627776]) rfl (wanted_none rfl) rfl Try.func115 (args2 (E.d 0 0) rfl) (cI_Q Hx1.out) ?_
  rintro e u1_1 ⟨rfl, qrd, hm⟩
  refine ⟨_, rfl, ?_⟩
  have Hx2 := hid qrd
  have zu1_1 := hm.size
  have Cx3 := hid (show Mod (fun k => (R k)) w1 u1_1 from hm)
  clear hm
  clear act E qrd Hx1
  refine QSeq.pure rfl (.pointer (some ⟨r, 0, none⟩)) (fun E => ex_move rfl (E.v oe0)) ?_
  refine QSeq.go fun act E => ?_
  refine qc_callF (args := #[.pointer (some ⟨r, 0, none⟩), .int .i64 1099511627776]) rfl (wanted_none rfl) rfl Try.func115 (args2 (E.d 2 0) rfl) (cI_Q Hx2.out) ?_
  rintro e u1_3 ⟨rfl, qrd, hm⟩
  refine ⟨_, rfl, ?_⟩
  have Hx4 := hid qrd
  have zu1_3 := hm.size
  have HMu1_3 := hid hm
  have Cx5 := hid (Mod.goS (S' := (fun k => (R k))) Cx3.out hm (fun _ h => h) (by intro k h0 h2; exact h2))
  clear hm Cx3
  clear act E qrd Hx2
  refine QSeq.go fun act E => ?_
  refine qc_run rfl (wanted_none rfl) (v := .agg #[.int .i64 (gSig s).1.1, .int .i64 (gSig s).1.2]) (ex_build rfl (z := [.int .i64 0, .int .i64 0]) (places := [(0, 1), (1, 1)]) (by kernel_rfl) (parts := [(0, .int .i64 (gI s).1), (1, .int .i64 (gI (gI s).2).1)]) (by simp only [List.map_toArray, List.map_cons, List.map_nil, show act.eval (.tmp 4) = .int .i64 (gI s).1 from (E.d 1 2), show act.eval (.tmp 6) = .int .i64 (gI (gI s).2).1 from (E.d 3 0)]; try rfl) (r := [.int .i64 (gSig s).1.1, .int .i64 (gSig s).1.2]) (by exact laid_segs (ns := [1, 1]) rfl [(0, .int .i64 (gI s).1), (1, .int .i64 (gI (gI s).2).1)] [[.int .i64 0], [.int .i64 0]] rfl ⟨rfl, rfl, trivial⟩)) ?_
  clear act E
  refine QSeq.go fun act E => ?_
  refine qc_store rfl (wanted_none rfl) rfl (HB2.out.mod Cx5.out (by intro h2; first | omega | (have hb := HBR.out _ h2; omega))) (off := 0) (vs := ([.int .i64 (gSig s).1.1, .int .i64 (gSig s).1.2])) (by kernel_rfl) (by intro u hu; simp at hu; rcases hu with rfl | rfl <;> rfl) (by simp) (E.v oe2) (by rw [show act.eval ((.tmp 7)) = _ from (E.d 4 0)]; rfl) ?_
  intro u1_5 qc0 hm
  have qB2 : Cs u1_5 (w.heap.size) (([.int .i64 (gSig s).1.1, .int .i64 (gSig s).1.2]) : List Value).toArray 23 := by rw [show lay _ 0 _ = (([.int .i64 (gSig s).1.1, .int .i64 (gSig s).1.2]) : List Value).toArray from lay_whole #[.int .i64 0, .int .i64 0] _ rfl] at qc0; exact qc0
  clear qc0
  have Hx6 := hid qB2
  have zu1_5 := hm.size
  have HMu1_5 := hid hm
  have Cx7 := hid (Mod.goS (S' := (fun k => (R k) ∨ (k = w.heap.size))) Cx5.out hm (fun _ h => Or.inl h) (by intro k h0 h2; exact Or.inr (h2)))
  clear hm Cx5
  clear act E qB2 HB2
  have Hx8 := hid (Hx4.out.mod HMu1_5.out (by intro k h1 h2; have hb := HBR.out k h1; omega))
  clear Hx4 HMu1_3 HMu1_5
  refine QSeq.nil (t' := [_, _, _, _, _, _]) rfl ?_
  have ha0 := HA0.out
  subst ha0
  clear HA0 hsz0 oe0 oe2
  simp only [putAll, Act.put, List.setIfInBounds_toArray, List.set_cons_zero, List.set_cons_succ, List.set_nil]
  go_wp2
  exact bodyPost_ret (results_cellA rfl _ _ w.heap.size ([.int .i64 (gSig s).1.1, .int .i64 (gSig s).1.2]) rfl (fun k u hu => by rw [Hx6.out.cell]; simpa using hu) Try.underlying23 rfl (by kernel_rfl)) rfl ⟨rfl, Hx8.out, (HM0.out.trans Cx7.out (by intro k h1 h2; rcases h2 with h2 | h2 <;> first | exact h2 | omega | (have hb := HBR.out k h2; omega)))⟩
set_option maxHeartbeats 4000000 in
theorem cCm_Q : GetsF 125 109 Cm.cells gCm := by
  intro R r s w hR hB
  have HRD := Lib.hid hR
  have HBR := Lib.hid hB
  have HBY := hid hR.bytes
  clear hR hB
  go_enter Try.func109, Try.ntmps109
  go_upto_region 1 with (fail)
  obtain ⟨w1, hw1⟩ : ∃ zz, zz = (w.alloc (.cells #[.int .i64 0, .int .i64 0, .int .u8 0, .int .u8 0, .int .u8 0, .int .u8 0, .int .u8 0, .int .u8 0, .int .u8 0, .int .u8 0, .int .u8 0, .int .u8 0, .int .u8 0, .int .u8 0, .int .u8 0, .int .u8 0, .int .u8 0, .int .u8 0, .int .u8 0, .int .u8 0, .int .u8 0, .int .u8 0, .int .u8 0, .int .u8 0, .int .u8 0, .int .u8 0, .int .u8 0, .int .u8 0, .int .u8 0, .int .u8 0, .int .u8 0, .int .u8 0, .int .u8 0, .int .u8 0, .int .i64 0, .int .i64 0, .int .i64 0] 49)) := ⟨_, rfl⟩
  change Code.wp _ _ _ _ (w.alloc (.cells #[.int .i64 0, .int .i64 0, .int .u8 0, .int .u8 0, .int .u8 0, .int .u8 0, .int .u8 0, .int .u8 0, .int .u8 0, .int .u8 0, .int .u8 0, .int .u8 0, .int .u8 0, .int .u8 0, .int .u8 0, .int .u8 0, .int .u8 0, .int .u8 0, .int .u8 0, .int .u8 0, .int .u8 0, .int .u8 0, .int .u8 0, .int .u8 0, .int .u8 0, .int .u8 0, .int .u8 0, .int .u8 0, .int .u8 0, .int .u8 0, .int .u8 0, .int .u8 0, .int .u8 0, .int .u8 0, .int .i64 0, .int .i64 0, .int .i64 0] 49))
  rw [← hw1]
  have HB2 := hid (show Cs w1 (w.heap.size) #[.int .i64 0, .int .i64 0, .int .u8 0, .int .u8 0, .int .u8 0, .int .u8 0, .int .u8 0, .int .u8 0, .int .u8 0, .int .u8 0, .int .u8 0, .int .u8 0, .int .u8 0, .int .u8 0, .int .u8 0, .int .u8 0, .int .u8 0, .int .u8 0, .int .u8 0, .int .u8 0, .int .u8 0, .int .u8 0, .int .u8 0, .int .u8 0, .int .u8 0, .int .u8 0, .int .u8 0, .int .u8 0, .int .u8 0, .int .u8 0, .int .u8 0, .int .u8 0, .int .u8 0, .int .u8 0, .int .i64 0, .int .i64 0, .int .i64 0] 49 by rw [hw1]; exact Cs.new _ _ _)
  have hm : Mod (fun _ => False) w w1 := by rw [hw1]; exact (Mod.refl _ _).alloc _
  have HM0 := hid (show Mod (fun k => (R k)) w w1 from hm.mono (fun _ _ h => h.elim))
  have hs1 : w1.heap.size = w.heap.size + 1 := by rw [hw1]; simp
  have Hx1 := hid (HRD.out.mod hm (fun _ _ h => h))
  clear HRD
  clear hw1 hm
  go_upto_region 1 with (fail)
  generalize ha0 : Act.mk _ _ = a0
  have oe0 : a0.eval (.tmp 0) = .pointer (some ⟨r, 0, none⟩) := by rw [← ha0]; rfl
  have oe2 : a0.eval (.tmp 2) = .pointer (some ⟨w.heap.size, 0, none⟩) := by rw [← ha0]; rfl
  have hsz0 : a0.tmps.size = 12 := by rw [← ha0]; rfl
  have HA0 := hid ha0
  clear ha0
  refine wp_region_S 12 hsz0 [3, 4, 5, 6, 7, 8, 9, 10, 11, 21] [0, 1, 2, 3, 4, 5, 6, 7, 8, 9] ?_
  refine QSeq.pure rfl (.pointer (some ⟨r, 0, none⟩)) (fun E => ex_move rfl (E.v oe0)) ?_
  refine QSeq.go fun act E => ?_
  refine qc_callF (args := #[.pointer (some ⟨r, 0, none⟩)]) rfl (wanted_none rfl) rfl Try.func143 (args1 (E.d 0 0)) (cName_Q _ _ _ _ Hx1.out (by intro k h1; have hb := HBR.out k h1; omega)) ?_
  rintro e u1_1 ⟨rfl, qrd, hm⟩
  refine ⟨_, rfl, ?_⟩
  have Hx2 := hid qrd
  have zu1_1 := hm.size
  have Cx3 := hid (show Mod (fun k => (R k)) w1 u1_1 from hm)
  clear hm
  clear act E qrd Hx1
  refine QSeq.pure rfl (.pointer (some ⟨r, 0, none⟩)) (fun E => ex_move rfl (E.v oe0)) ?_
  refine QSeq.go fun act E => ?_
  refine qc_callF (args := #[.pointer (some ⟨r, 0, none⟩)]) rfl (wanted_none rfl) rfl Try.func144 (args1 (E.d 2 0)) (RHash_R Hx2.out) ?_
  rintro e u1_3 ⟨rfl, qrd, hm⟩
  refine ⟨_, rfl, ?_⟩
  have Hx4 := hid qrd
  have zu1_3 := hm.size
  have HMu1_3 := hid hm
  have Cx5 := hid (Mod.goS (S' := (fun k => (R k))) Cx3.out hm (fun _ h => h) (by intro k h0 h2; exact h2))
  clear hm Cx3
  clear act E qrd Hx2
  refine QSeq.pure rfl (.pointer (some ⟨r, 0, none⟩)) (fun E => ex_move rfl (E.v oe0)) ?_
  refine QSeq.go fun act E => ?_
  refine qc_callF (args := #[.pointer (some ⟨r, 0, none⟩), .int .i64 1099511627776]) rfl (wanted_none rfl) rfl Try.func115 (args2 (E.d 4 0) rfl) (cI_Q Hx4.out) ?_
  rintro e u1_5 ⟨rfl, qrd, hm⟩
  refine ⟨_, rfl, ?_⟩
  have Hx6 := hid qrd
  have zu1_5 := hm.size
  have HMu1_5 := hid hm
  have Cx7 := hid (Mod.goS (S' := (fun k => (R k))) Cx5.out hm (fun _ h => h) (by intro k h0 h2; exact h2))
  clear hm Cx5
  clear act E qrd Hx4
  refine QSeq.pure rfl (.pointer (some ⟨r, 0, none⟩)) (fun E => ex_move rfl (E.v oe0)) ?_
  refine QSeq.go fun act E => ?_
  refine qc_callF (args := #[.pointer (some ⟨r, 0, none⟩)]) rfl (wanted_none rfl) rfl Try.func118 (args1 (E.d 6 0)) (cSig_Q _ _ _ _ Hx6.out (by intro k h1; have hb := HBR.out k h1; omega)) ?_
  rintro e u1_7 ⟨rfl, qrd, hm⟩
  refine ⟨_, rfl, ?_⟩
  have Hx8 := hid qrd
  have zu1_7 := hm.size
  have HMu1_7 := hid hm
  have Cx9 := hid (Mod.goS (S' := (fun k => (R k))) Cx7.out hm (fun _ h => h) (by intro k h0 h2; exact h2))
  clear hm Cx7
  clear act E qrd Hx6
  refine QSeq.go fun act E => ?_
  refine qc_run rfl (wanted_none rfl) (v := .agg ((gCm s).1.cells : List Value).toArray) (ex_build rfl (z := [.int .i64 0, .int .i64 0, .int .u8 0, .int .u8 0, .int .u8 0, .int .u8 0, .int .u8 0, .int .u8 0, .int .u8 0, .int .u8 0, .int .u8 0, .int .u8 0, .int .u8 0, .int .u8 0, .int .u8 0, .int .u8 0, .int .u8 0, .int .u8 0, .int .u8 0, .int .u8 0, .int .u8 0, .int .u8 0, .int .u8 0, .int .u8 0, .int .u8 0, .int .u8 0, .int .u8 0, .int .u8 0, .int .u8 0, .int .u8 0, .int .u8 0, .int .u8 0, .int .u8 0, .int .u8 0, .int .i64 0, .int .i64 0, .int .i64 0]) (places := [(0, 2), (2, 32), (34, 1), (35, 2)]) (by kernel_rfl) (parts := [(0, .agg #[.int .i64 (gSig s).1.1, .int .i64 (gSig s).1.2]), (1, hv (rHash (gSig s).2).1), (2, .int .i64 (gI (rHash (gSig s).2).2).1), (3, .agg #[.int .i64 (gSig (gI (rHash (gSig s).2).2).2).1.1, .int .i64 (gSig (gI (rHash (gSig s).2).2).2).1.2])]) (by simp only [List.map_toArray, List.map_cons, List.map_nil, show act.eval (.tmp 4) = .agg #[.int .i64 (gSig s).1.1, .int .i64 (gSig s).1.2] from (E.d 1 6), show act.eval (.tmp 6) = hv (rHash (gSig s).2).1 from (E.d 3 4), show act.eval (.tmp 8) = .int .i64 (gI (rHash (gSig s).2).2).1 from (E.d 5 2), show act.eval (.tmp 10) = .agg #[.int .i64 (gSig (gI (rHash (gSig s).2).2).2).1.1, .int .i64 (gSig (gI (rHash (gSig s).2).2).2).1.2] from (E.d 7 0)]; try rfl) (r := (gCm s).1.cells) (by exact laid_segs (ns := [2, 32, 1, 2]) rfl [(0, .agg #[.int .i64 (gSig s).1.1, .int .i64 (gSig s).1.2]), (1, hv (rHash (gSig s).2).1), (2, .int .i64 (gI (rHash (gSig s).2).2).1), (3, .agg #[.int .i64 (gSig (gI (rHash (gSig s).2).2).2).1.1, .int .i64 (gSig (gI (rHash (gSig s).2).2).2).1.2])] [[.int .i64 0, .int .i64 0], [.int .u8 0, .int .u8 0, .int .u8 0, .int .u8 0, .int .u8 0, .int .u8 0, .int .u8 0, .int .u8 0, .int .u8 0, .int .u8 0, .int .u8 0, .int .u8 0, .int .u8 0, .int .u8 0, .int .u8 0, .int .u8 0, .int .u8 0, .int .u8 0, .int .u8 0, .int .u8 0, .int .u8 0, .int .u8 0, .int .u8 0, .int .u8 0, .int .u8 0, .int .u8 0, .int .u8 0, .int .u8 0, .int .u8 0, .int .u8 0, .int .u8 0, .int .u8 0], [.int .i64 0], [.int .i64 0, .int .i64 0]] rfl ⟨rfl, (szv (by rw [List.length_map]; exact rHash_l _)), rfl, rfl, trivial⟩)) ?_
  clear act E
  refine QSeq.go fun act E => ?_
  refine qc_store rfl (wanted_none rfl) rfl (HB2.out.mod Cx9.out (by intro h2; first | omega | (have hb := HBR.out _ h2; omega))) (off := 0) (vs := ((gCm s).1.cells)) (by rw [show ((gCm s).1.cells).length = _ from (Cm.len (rHash_HK (gSig_suf.bytes HBY.out)).1)]; kernel_rfl) (Cm_one _) (by rw [show ((gCm s).1.cells).length = _ from (Cm.len (rHash_HK (gSig_suf.bytes HBY.out)).1)]; decide) (E.v oe2) (by rw [show act.eval ((.tmp 11)) = _ from (E.d 8 0)]; rfl) ?_
  intro u1_9 qc0 hm
  have qB2 : Cs u1_9 (w.heap.size) (((gCm s).1.cells) : List Value).toArray 49 := by rw [show lay _ 0 _ = (((gCm s).1.cells) : List Value).toArray from lay_whole _ _ (by rw [show ((gCm s).1.cells).length = _ from (Cm.len (rHash_HK (gSig_suf.bytes HBY.out)).1)]; rfl)] at qc0; exact qc0
  clear qc0
  have Hx10 := hid qB2
  have zu1_9 := hm.size
  have HMu1_9 := hid hm
  have Cx11 := hid (Mod.goS (S' := (fun k => (R k) ∨ (k = w.heap.size))) Cx9.out hm (fun _ h => Or.inl h) (by intro k h0 h2; exact Or.inr (h2)))
  clear hm Cx9
  clear act E qB2 HB2
  have Hx12 := hid (Hx8.out.mod HMu1_9.out (by intro k h1 h2; have hb := HBR.out k h1; omega))
  clear Hx8 HMu1_3 HMu1_5 HMu1_7 HMu1_9
  refine QSeq.nil (t' := [_, _, _, _, _, _, _, _, _, _]) rfl ?_
  have ha0 := HA0.out
  subst ha0
  clear HA0 hsz0 oe0 oe2
  simp only [putAll, Act.put, List.setIfInBounds_toArray, List.set_cons_zero, List.set_cons_succ, List.set_nil]
  go_wp2
  exact bodyPost_ret (results_cellA rfl _ _ w.heap.size ((gCm s).1.cells) rfl (fun k u hu => by rw [Hx10.out.cell]; simpa using hu) Try.underlying49 rfl (by rw [show ((gCm s).1.cells).length = _ from (Cm.len (rHash_HK (gSig_suf.bytes HBY.out)).1)]; kernel_rfl)) rfl ⟨rfl, Hx12.out, (HM0.out.trans Cx11.out (by intro k h1 h2; rcases h2 with h2 | h2 <;> first | exact h2 | omega | (have hb := HBR.out k h2; omega)))⟩
set_option maxHeartbeats 4000000 in
theorem cSt_Q : GetsF 125 111 St.cells gSt := by
  intro R r s w hR hB
  have HRD := Lib.hid hR
  have HBR := Lib.hid hB
  have HBY := hid hR.bytes
  clear hR hB
  go_enter Try.func111, Try.ntmps111
  go_upto_region 1 with (fail)
  obtain ⟨w1, hw1⟩ : ∃ zz, zz = (w.alloc (.cells #[.int .i64 0, .int .i64 0, .int .i64 0, .int .u8 0, .int .u8 0, .int .u8 0, .int .u8 0, .int .u8 0, .int .u8 0, .int .u8 0, .int .u8 0, .int .u8 0, .int .u8 0, .int .u8 0, .int .u8 0, .int .u8 0, .int .u8 0, .int .u8 0, .int .u8 0, .int .u8 0, .int .u8 0, .int .u8 0, .int .u8 0, .int .u8 0, .int .u8 0, .int .u8 0, .int .u8 0, .int .u8 0, .int .u8 0, .int .u8 0, .int .u8 0, .int .u8 0, .int .u8 0, .int .u8 0, .int .u8 0, .int .u64 0, .int .i64 0, .int .i64 0] 30)) := ⟨_, rfl⟩
  change Code.wp _ _ _ _ (w.alloc (.cells #[.int .i64 0, .int .i64 0, .int .i64 0, .int .u8 0, .int .u8 0, .int .u8 0, .int .u8 0, .int .u8 0, .int .u8 0, .int .u8 0, .int .u8 0, .int .u8 0, .int .u8 0, .int .u8 0, .int .u8 0, .int .u8 0, .int .u8 0, .int .u8 0, .int .u8 0, .int .u8 0, .int .u8 0, .int .u8 0, .int .u8 0, .int .u8 0, .int .u8 0, .int .u8 0, .int .u8 0, .int .u8 0, .int .u8 0, .int .u8 0, .int .u8 0, .int .u8 0, .int .u8 0, .int .u8 0, .int .u8 0, .int .u64 0, .int .i64 0, .int .i64 0] 30))
  rw [← hw1]
  have HB2 := hid (show Cs w1 (w.heap.size) #[.int .i64 0, .int .i64 0, .int .i64 0, .int .u8 0, .int .u8 0, .int .u8 0, .int .u8 0, .int .u8 0, .int .u8 0, .int .u8 0, .int .u8 0, .int .u8 0, .int .u8 0, .int .u8 0, .int .u8 0, .int .u8 0, .int .u8 0, .int .u8 0, .int .u8 0, .int .u8 0, .int .u8 0, .int .u8 0, .int .u8 0, .int .u8 0, .int .u8 0, .int .u8 0, .int .u8 0, .int .u8 0, .int .u8 0, .int .u8 0, .int .u8 0, .int .u8 0, .int .u8 0, .int .u8 0, .int .u8 0, .int .u64 0, .int .i64 0, .int .i64 0] 30 by rw [hw1]; exact Cs.new _ _ _)
  have hm : Mod (fun _ => False) w w1 := by rw [hw1]; exact (Mod.refl _ _).alloc _
  have HM0 := hid (show Mod (fun k => (R k)) w w1 from hm.mono (fun _ _ h => h.elim))
  have hs1 : w1.heap.size = w.heap.size + 1 := by rw [hw1]; simp
  have Hx1 := hid (HRD.out.mod hm (fun _ _ h => h))
  clear HRD
  clear hw1 hm
  go_upto_region 1 with (fail)
  generalize ha0 : Act.mk _ _ = a0
  have oe0 : a0.eval (.tmp 0) = .pointer (some ⟨r, 0, none⟩) := by rw [← ha0]; rfl
  have oe2 : a0.eval (.tmp 2) = .pointer (some ⟨w.heap.size, 0, none⟩) := by rw [← ha0]; rfl
  have hsz0 : a0.tmps.size = 14 := by rw [← ha0]; rfl
  have HA0 := hid ha0
  clear ha0
  refine wp_region_S 14 hsz0 [3, 4, 5, 6, 7, 8, 9, 10, 11, 12, 13, 25] [0, 1, 2, 3, 4, 5, 6, 7, 8, 9, 10, 11] ?_
  refine QSeq.pure rfl (.pointer (some ⟨r, 0, none⟩)) (fun E => ex_move rfl (E.v oe0)) ?_
  refine QSeq.go fun act E => ?_
  refine qc_callF (args := #[.pointer (some ⟨r, 0, none⟩), .int .i64 1099511627776]) rfl (wanted_none rfl) rfl Try.func115 (args2 (E.d 0 0) rfl) (cI_Q Hx1.out) ?_
  rintro e u1_1 ⟨rfl, qrd, hm⟩
  refine ⟨_, rfl, ?_⟩
  have Hx2 := hid qrd
  have zu1_1 := hm.size
  have Cx3 := hid (show Mod (fun k => (R k)) w1 u1_1 from hm)
  clear hm
  clear act E qrd Hx1
  refine QSeq.pure rfl (.pointer (some ⟨r, 0, none⟩)) (fun E => ex_move rfl (E.v oe0)) ?_
  refine QSeq.go fun act E => ?_
  refine qc_callF (args := #[.pointer (some ⟨r, 0, none⟩)]) rfl (wanted_none rfl) rfl Try.func143 (args1 (E.d 2 0)) (cName_Q _ _ _ _ Hx2.out (by intro k h1; have hb := HBR.out k h1; omega)) ?_
  rintro e u1_3 ⟨rfl, qrd, hm⟩
  refine ⟨_, rfl, ?_⟩
  have Hx4 := hid qrd
  have zu1_3 := hm.size
  have HMu1_3 := hid hm
  have Cx5 := hid (Mod.goS (S' := (fun k => (R k))) Cx3.out hm (fun _ h => h) (by intro k h0 h2; exact h2))
  clear hm Cx3
  clear act E qrd Hx2
  refine QSeq.pure rfl (.pointer (some ⟨r, 0, none⟩)) (fun E => ex_move rfl (E.v oe0)) ?_
  refine QSeq.go fun act E => ?_
  refine qc_callF (args := #[.pointer (some ⟨r, 0, none⟩)]) rfl (wanted_none rfl) rfl Try.func144 (args1 (E.d 4 0)) (RHash_R Hx4.out) ?_
  rintro e u1_5 ⟨rfl, qrd, hm⟩
  refine ⟨_, rfl, ?_⟩
  have Hx6 := hid qrd
  have zu1_5 := hm.size
  have HMu1_5 := hid hm
  have Cx7 := hid (Mod.goS (S' := (fun k => (R k))) Cx5.out hm (fun _ h => h) (by intro k h0 h2; exact h2))
  clear hm Cx5
  clear act E qrd Hx4
  refine QSeq.pure rfl (.pointer (some ⟨r, 0, none⟩)) (fun E => ex_move rfl (E.v oe0)) ?_
  refine QSeq.go fun act E => ?_
  refine qc_callF (args := #[.pointer (some ⟨r, 0, none⟩)]) rfl (wanted_none rfl) rfl Try.func116 (args1 (E.d 6 0)) (RNum_R Hx6.out) ?_
  rintro e u1_7 ⟨rfl, qrd, hm⟩
  refine ⟨_, rfl, ?_⟩
  have Hx8 := hid qrd
  have zu1_7 := hm.size
  have HMu1_7 := hid hm
  have Cx9 := hid (Mod.goS (S' := (fun k => (R k))) Cx7.out hm (fun _ h => h) (by intro k h0 h2; exact h2))
  clear hm Cx7
  clear act E qrd Hx6
  refine QSeq.pure rfl (.pointer (some ⟨r, 0, none⟩)) (fun E => ex_move rfl (E.v oe0)) ?_
  refine QSeq.go fun act E => ?_
  refine qc_callF (args := #[.pointer (some ⟨r, 0, none⟩)]) rfl (wanted_none rfl) rfl Try.func118 (args1 (E.d 8 0)) (cSig_Q _ _ _ _ Hx8.out (by intro k h1; have hb := HBR.out k h1; omega)) ?_
  rintro e u1_9 ⟨rfl, qrd, hm⟩
  refine ⟨_, rfl, ?_⟩
  have Hx10 := hid qrd
  have zu1_9 := hm.size
  have HMu1_9 := hid hm
  have Cx11 := hid (Mod.goS (S' := (fun k => (R k))) Cx9.out hm (fun _ h => h) (by intro k h0 h2; exact h2))
  clear hm Cx9
  clear act E qrd Hx8
  refine QSeq.go fun act E => ?_
  refine qc_run rfl (wanted_none rfl) (v := .agg ((gSt s).1.cells : List Value).toArray) (ex_build rfl (z := [.int .i64 0, .int .i64 0, .int .i64 0, .int .u8 0, .int .u8 0, .int .u8 0, .int .u8 0, .int .u8 0, .int .u8 0, .int .u8 0, .int .u8 0, .int .u8 0, .int .u8 0, .int .u8 0, .int .u8 0, .int .u8 0, .int .u8 0, .int .u8 0, .int .u8 0, .int .u8 0, .int .u8 0, .int .u8 0, .int .u8 0, .int .u8 0, .int .u8 0, .int .u8 0, .int .u8 0, .int .u8 0, .int .u8 0, .int .u8 0, .int .u8 0, .int .u8 0, .int .u8 0, .int .u8 0, .int .u8 0, .int .u64 0, .int .i64 0, .int .i64 0]) (places := [(0, 1), (1, 2), (3, 32), (35, 1), (36, 2)]) (by kernel_rfl) (parts := [(0, .int .i64 (gI s).1), (1, .agg #[.int .i64 (gSig (gI s).2).1.1, .int .i64 (gSig (gI s).2).1.2]), (2, hv (rHash (gSig (gI s).2).2).1), (3, .int .u64 ((rNum (rHash (gSig (gI s).2).2).2).1 : Nat)), (4, .agg #[.int .i64 (gSig (rNum (rHash (gSig (gI s).2).2).2).2).1.1, .int .i64 (gSig (rNum (rHash (gSig (gI s).2).2).2).2).1.2])]) (by simp only [List.map_toArray, List.map_cons, List.map_nil, show act.eval (.tmp 4) = .int .i64 (gI s).1 from (E.d 1 8), show act.eval (.tmp 6) = .agg #[.int .i64 (gSig (gI s).2).1.1, .int .i64 (gSig (gI s).2).1.2] from (E.d 3 6), show act.eval (.tmp 8) = hv (rHash (gSig (gI s).2).2).1 from (E.d 5 4), show act.eval (.tmp 10) = .int .u64 ((rNum (rHash (gSig (gI s).2).2).2).1 : Nat) from (E.d 7 2), show act.eval (.tmp 12) = .agg #[.int .i64 (gSig (rNum (rHash (gSig (gI s).2).2).2).2).1.1, .int .i64 (gSig (rNum (rHash (gSig (gI s).2).2).2).2).1.2] from (E.d 9 0)]; try rfl) (r := (gSt s).1.cells) (by exact laid_segs (ns := [1, 2, 32, 1, 2]) rfl [(0, .int .i64 (gI s).1), (1, .agg #[.int .i64 (gSig (gI s).2).1.1, .int .i64 (gSig (gI s).2).1.2]), (2, hv (rHash (gSig (gI s).2).2).1), (3, .int .u64 ((rNum (rHash (gSig (gI s).2).2).2).1 : Nat)), (4, .agg #[.int .i64 (gSig (rNum (rHash (gSig (gI s).2).2).2).2).1.1, .int .i64 (gSig (rNum (rHash (gSig (gI s).2).2).2).2).1.2])] [[.int .i64 0], [.int .i64 0, .int .i64 0], [.int .u8 0, .int .u8 0, .int .u8 0, .int .u8 0, .int .u8 0, .int .u8 0, .int .u8 0, .int .u8 0, .int .u8 0, .int .u8 0, .int .u8 0, .int .u8 0, .int .u8 0, .int .u8 0, .int .u8 0, .int .u8 0, .int .u8 0, .int .u8 0, .int .u8 0, .int .u8 0, .int .u8 0, .int .u8 0, .int .u8 0, .int .u8 0, .int .u8 0, .int .u8 0, .int .u8 0, .int .u8 0, .int .u8 0, .int .u8 0, .int .u8 0, .int .u8 0], [.int .u64 0], [.int .i64 0, .int .i64 0]] rfl ⟨rfl, rfl, (szv (by rw [List.length_map]; exact rHash_l _)), rfl, rfl, trivial⟩)) ?_
  clear act E
  refine QSeq.go fun act E => ?_
  refine qc_store rfl (wanted_none rfl) rfl (HB2.out.mod Cx11.out (by intro h2; first | omega | (have hb := HBR.out _ h2; omega))) (off := 0) (vs := ((gSt s).1.cells)) (by rw [show ((gSt s).1.cells).length = _ from (St.len (gSt_OK HBY.out))]; kernel_rfl) (St.one _) (by rw [show ((gSt s).1.cells).length = _ from (St.len (gSt_OK HBY.out))]; decide) (E.v oe2) (by rw [show act.eval ((.tmp 13)) = _ from (E.d 10 0)]; rfl) ?_
  intro u1_11 qc0 hm
  have qB2 : Cs u1_11 (w.heap.size) (((gSt s).1.cells) : List Value).toArray 30 := by rw [show lay _ 0 _ = (((gSt s).1.cells) : List Value).toArray from lay_whole _ _ (by rw [show ((gSt s).1.cells).length = _ from (St.len (gSt_OK HBY.out))]; rfl)] at qc0; exact qc0
  clear qc0
  have Hx12 := hid qB2
  have zu1_11 := hm.size
  have HMu1_11 := hid hm
  have Cx13 := hid (Mod.goS (S' := (fun k => (R k) ∨ (k = w.heap.size))) Cx11.out hm (fun _ h => Or.inl h) (by intro k h0 h2; exact Or.inr (h2)))
  clear hm Cx11
  clear act E qB2 HB2
  have Hx14 := hid (Hx10.out.mod HMu1_11.out (by intro k h1 h2; have hb := HBR.out k h1; omega))
  clear Hx10 HMu1_3 HMu1_5 HMu1_7 HMu1_9 HMu1_11
  refine QSeq.nil (t' := [_, _, _, _, _, _, _, _, _, _, _, _]) rfl ?_
  have ha0 := HA0.out
  subst ha0
  clear HA0 hsz0 oe0 oe2
  simp only [putAll, Act.put, List.setIfInBounds_toArray, List.set_cons_zero, List.set_cons_succ, List.set_nil]
  go_wp2
  exact bodyPost_ret (results_cellA rfl _ _ w.heap.size ((gSt s).1.cells) rfl (fun k u hu => by rw [Hx12.out.cell]; simpa using hu) Try.underlying30 rfl (by rw [show ((gSt s).1.cells).length = _ from (St.len (gSt_OK HBY.out))]; kernel_rfl)) rfl ⟨rfl, Hx14.out, (HM0.out.trans Cx13.out (by intro k h1 h2; rcases h2 with h2 | h2 <;> first | exact h2 | omega | (have hb := HBR.out k h2; omega)))⟩
theorem cSt_G : Gets StR 125 111 gSt := GetsF.to (A := StR) cSt_Q fun _ _ _ hb => ⟨rfl, gSt_OK hb⟩
set_option maxHeartbeats 4000000 in
theorem cDn_Q : GetsF 125 151 Dn.cells gDn := by
  intro R r s w hR hB
  have HRD := Lib.hid hR
  have HBR := Lib.hid hB
  have HBY := hid hR.bytes
  clear hR hB
  go_enter Try.func151, Try.ntmps151
  go_upto_region 1 with (fail)
  obtain ⟨w1, hw1⟩ : ∃ zz, zz = (w.alloc (.cells #[.int .i64 0, .int .i64 0, .int .i64 0, .int .i64 0] 34)) := ⟨_, rfl⟩
  change Code.wp _ _ _ _ (w.alloc (.cells #[.int .i64 0, .int .i64 0, .int .i64 0, .int .i64 0] 34))
  rw [← hw1]
  have HB2 := hid (show Cs w1 (w.heap.size) #[.int .i64 0, .int .i64 0, .int .i64 0, .int .i64 0] 34 by rw [hw1]; exact Cs.new _ _ _)
  have hm : Mod (fun _ => False) w w1 := by rw [hw1]; exact (Mod.refl _ _).alloc _
  have HM0 := hid (show Mod (fun k => (R k)) w w1 from hm.mono (fun _ _ h => h.elim))
  have hs1 : w1.heap.size = w.heap.size + 1 := by rw [hw1]; simp
  have Hx1 := hid (HRD.out.mod hm (fun _ _ h => h))
  clear HRD
  clear hw1 hm
  go_upto_region 1 with (fail)
  generalize ha0 : Act.mk _ _ = a0
  have oe0 : a0.eval (.tmp 0) = .pointer (some ⟨r, 0, none⟩) := by rw [← ha0]; rfl
  have oe2 : a0.eval (.tmp 2) = .pointer (some ⟨w.heap.size, 0, none⟩) := by rw [← ha0]; rfl
  have hsz0 : a0.tmps.size = 10 := by rw [← ha0]; rfl
  have HA0 := hid ha0
  clear ha0
  refine wp_region_S 10 hsz0 [3, 4, 5, 6, 7, 8, 9, 17] [0, 1, 2, 3, 4, 5, 6, 7] ?_
  refine QSeq.pure rfl (.pointer (some ⟨r, 0, none⟩)) (fun E => ex_move rfl (E.v oe0)) ?_
  refine QSeq.go fun act E => ?_
  refine qc_callF (args := #[.pointer (some ⟨r, 0, none⟩), .int .i64 1099511627776]) rfl (wanted_none rfl) rfl Try.func115 (args2 (E.d 0 0) rfl) (cI_Q Hx1.out) ?_
  rintro e u1_1 ⟨rfl, qrd, hm⟩
  refine ⟨_, rfl, ?_⟩
  have Hx2 := hid qrd
  have zu1_1 := hm.size
  have Cx3 := hid (show Mod (fun k => (R k)) w1 u1_1 from hm)
  clear hm
  clear act E qrd Hx1
  refine QSeq.pure rfl (.pointer (some ⟨r, 0, none⟩)) (fun E => ex_move rfl (E.v oe0)) ?_
  refine QSeq.go fun act E => ?_
  refine qc_callF (args := #[.pointer (some ⟨r, 0, none⟩), .int .i64 1099511627776]) rfl (wanted_none rfl) rfl Try.func115 (args2 (E.d 2 0) rfl) (cI_Q Hx2.out) ?_
  rintro e u1_3 ⟨rfl, qrd, hm⟩
  refine ⟨_, rfl, ?_⟩
  have Hx4 := hid qrd
  have zu1_3 := hm.size
  have HMu1_3 := hid hm
  have Cx5 := hid (Mod.goS (S' := (fun k => (R k))) Cx3.out hm (fun _ h => h) (by intro k h0 h2; exact h2))
  clear hm Cx3
  clear act E qrd Hx2
  refine QSeq.pure rfl (.pointer (some ⟨r, 0, none⟩)) (fun E => ex_move rfl (E.v oe0)) ?_
  refine QSeq.go fun act E => ?_
  refine qc_callF (args := #[.pointer (some ⟨r, 0, none⟩)]) rfl (wanted_none rfl) rfl Try.func118 (args1 (E.d 4 0)) (cSig_Q _ _ _ _ Hx4.out (by intro k h1; have hb := HBR.out k h1; omega)) ?_
  rintro e u1_5 ⟨rfl, qrd, hm⟩
  refine ⟨_, rfl, ?_⟩
  have Hx6 := hid qrd
  have zu1_5 := hm.size
  have HMu1_5 := hid hm
  have Cx7 := hid (Mod.goS (S' := (fun k => (R k))) Cx5.out hm (fun _ h => h) (by intro k h0 h2; exact h2))
  clear hm Cx5
  clear act E qrd Hx4
  refine QSeq.go fun act E => ?_
  refine qc_run rfl (wanted_none rfl) (v := .agg ((gDn s).1.cells : List Value).toArray) (ex_build rfl (z := [.int .i64 0, .int .i64 0, .int .i64 0, .int .i64 0]) (places := [(0, 1), (1, 1), (2, 2)]) (by kernel_rfl) (parts := [(0, .int .i64 (gI s).1), (1, .int .i64 (gI (gI s).2).1), (2, .agg #[.int .i64 (gSig (gI (gI s).2).2).1.1, .int .i64 (gSig (gI (gI s).2).2).1.2])]) (by simp only [List.map_toArray, List.map_cons, List.map_nil, show act.eval (.tmp 4) = .int .i64 (gI s).1 from (E.d 1 4), show act.eval (.tmp 6) = .int .i64 (gI (gI s).2).1 from (E.d 3 2), show act.eval (.tmp 8) = .agg #[.int .i64 (gSig (gI (gI s).2).2).1.1, .int .i64 (gSig (gI (gI s).2).2).1.2] from (E.d 5 0)]; try rfl) (r := (gDn s).1.cells) (by exact laid_segs (ns := [1, 1, 2]) rfl [(0, .int .i64 (gI s).1), (1, .int .i64 (gI (gI s).2).1), (2, .agg #[.int .i64 (gSig (gI (gI s).2).2).1.1, .int .i64 (gSig (gI (gI s).2).2).1.2])] [[.int .i64 0], [.int .i64 0], [.int .i64 0, .int .i64 0]] rfl ⟨rfl, rfl, rfl, trivial⟩)) ?_
  clear act E
  refine QSeq.go fun act E => ?_
  refine qc_store rfl (wanted_none rfl) rfl (HB2.out.mod Cx7.out (by intro h2; first | omega | (have hb := HBR.out _ h2; omega))) (off := 0) (vs := ((gDn s).1.cells)) (by rw [show ((gDn s).1.cells).length = _ from (Dn.len (gDn_OK HBY.out))]; kernel_rfl) (Dn.one _) (by rw [show ((gDn s).1.cells).length = _ from (Dn.len (gDn_OK HBY.out))]; decide) (E.v oe2) (by rw [show act.eval ((.tmp 9)) = _ from (E.d 6 0)]; rfl) ?_
  intro u1_7 qc0 hm
  have qB2 : Cs u1_7 (w.heap.size) (((gDn s).1.cells) : List Value).toArray 34 := by rw [show lay _ 0 _ = (((gDn s).1.cells) : List Value).toArray from lay_whole _ _ (by rw [show ((gDn s).1.cells).length = _ from (Dn.len (gDn_OK HBY.out))]; rfl)] at qc0; exact qc0
  clear qc0
  have Hx8 := hid qB2
  have zu1_7 := hm.size
  have HMu1_7 := hid hm
  have Cx9 := hid (Mod.goS (S' := (fun k => (R k) ∨ (k = w.heap.size))) Cx7.out hm (fun _ h => Or.inl h) (by intro k h0 h2; exact Or.inr (h2)))
  clear hm Cx7
  clear act E qB2 HB2
  have Hx10 := hid (Hx6.out.mod HMu1_7.out (by intro k h1 h2; have hb := HBR.out k h1; omega))
  clear Hx6 HMu1_3 HMu1_5 HMu1_7
  refine QSeq.nil (t' := [_, _, _, _, _, _, _, _]) rfl ?_
  have ha0 := HA0.out
  subst ha0
  clear HA0 hsz0 oe0 oe2
  simp only [putAll, Act.put, List.setIfInBounds_toArray, List.set_cons_zero, List.set_cons_succ, List.set_nil]
  go_wp2
  exact bodyPost_ret (results_cellA rfl _ _ w.heap.size ((gDn s).1.cells) rfl (fun k u hu => by rw [Hx8.out.cell]; simpa using hu) Try.underlying34 rfl (by rw [show ((gDn s).1.cells).length = _ from (Dn.len (gDn_OK HBY.out))]; kernel_rfl)) rfl ⟨rfl, Hx10.out, (HM0.out.trans Cx9.out (by intro k h1 h2; rcases h2 with h2 | h2 <;> first | exact h2 | omega | (have hb := HBR.out k h2; omega)))⟩
theorem cDn_G : Gets DnR 125 151 gDn := GetsF.to (A := DnR) cDn_Q fun _ _ _ hb => ⟨rfl, gDn_OK hb⟩
set_option maxHeartbeats 4000000 in
theorem cList_St : GetsL StR 125 110 111 gSt := by
  intro R r s w hR hB hl
  have HRD := Lib.hid hR
  have HBR := Lib.hid hB
  have HLN := Lib.hid hl
  clear hR hB hl
  go_enter Try.func110, Try.ntmps110
  go_upto_region 2 with (fail)
  have HM0 := hid (Mod.refl (fun k => (R k)) w)
  go_upto_region 2 with (fail)
  generalize ha0 : Act.mk _ _ = a0
  have oe0 : a0.eval (.tmp 0) = .pointer (some ⟨r, 0, none⟩) := by rw [← ha0]; rfl
  have hsz0 : a0.tmps.size = 21 := by rw [← ha0]; rfl
  have HA0 := hid ha0
  clear ha0
  refine wp_region_S 21 hsz0 [6, 7, 8] [0, 1, 2] ?_
  refine QSeq.pure rfl (.pointer (some ⟨r, 0, none⟩)) (fun E => ex_move rfl (E.v oe0)) ?_
  refine QSeq.go fun act E => ?_
  refine qc_callF (args := #[.pointer (some ⟨r, 0, none⟩), .int .i64 100]) rfl (wanted_none rfl) rfl Try.func115 (args2 (E.d 0 0) rfl) (RInt_R HRD.out (by decide)) ?_
  rintro e u2_1 ⟨rfl, qrd, hm⟩
  refine ⟨_, rfl, ?_⟩
  have Hx1 := hid qrd
  have zu2_1 := hm.size
  have Cx2 := hid (show Mod (fun k => (R k)) w u2_1 from hm)
  clear hm
  clear act E qrd HRD
  refine QSeq.pure rfl (.int .i64 0) (fun E => ex_move rfl rfl) ?_
  refine QSeq.nil (t' := [_, _, _]) rfl ?_
  have ha0 := HA0.out
  subst ha0
  clear HA0 hsz0 oe0
  simp only [putAll, Act.put, List.setIfInBounds_toArray, List.set_cons_zero, List.set_cons_succ]
  obtain ⟨n, hn⟩ : ∃ n, n = (rInt 100 s).1 := ⟨_, rfl⟩
  obtain ⟨s1, hs1⟩ : ∃ z, z = (rInt 100 s).2 := ⟨_, rfl⟩
  have hn100 : n ≤ 100 := by have := rInt_le 100 s; omega
  have HLS := hid (show (s1.getD []).length ≤ 900000 by rw [hs1]; exact Nat.le_trans ((rInt_suf 100).len s) HLN.out)
  have HGL := hid (show gList gSt s = gItems gSt n [] s1 by rw [hn, hs1]; rfl)
  rw [← hn]
  have hq := Hx1.out
  rw [← hs1] at hq
  have HR1 := Lib.hid hq
  clear hq hn hs1 HLN
  go_wp2
  go_loopw [5, 8] (fun ta ti wr => ∃ (k : Nat) (acc : List St) (st : RSt), ti = .int .i64 (k : Int) ∧ k ≤ n ∧ acc.length = k ∧ (st.getD []).length ≤ 900000 ∧ gItems gSt (n - k) acc st = gItems gSt n [] s1 ∧ u2_1.heap.size ≤ wr.heap.size ∧ OwS StR 30 (fun b => w.heap.size ≤ b ∧ b < wr.heap.size) (fun b => w.heap.size ≤ b ∧ b < wr.heap.size) wr ta acc ∧ RrR 125 R wr r st ∧ Mod R w wr) (fun _ ti _ => n - (intOf ti).toNat)
  case atStart => exact ⟨0, [], s1, rfl, Nat.zero_le _, rfl, HLS.out, rfl, Nat.le_refl _, OwS.nil _ _ _ _ _, HR1.out, (HM0.out.trans Cx2.out (fun _ _ h => h))⟩
  case round =>
    obtain ⟨k, acc, st, rfl, hk, hka, hst, hg, hz, ha, hr, hm⟩ := hrel
    obtain ⟨wl, rfl⟩ : ∃ x, x = wr := ⟨_, rfl⟩
    obtain ⟨aol, capl, rfl⟩ := ha.shape
    have HAL := Lib.hid ha
    have HRL := Lib.hid hr
    have HML := Lib.hid hm
    have HST := Lib.hid hst
    have HG := Lib.hid hg
    have HKA := Lib.hid hka
    clear ha hr hm hst hg hka HR1 HM0
    by_cases hlt : k < n
    · skip
      go_upto_region 3 with (fail)
      generalize ha0 : Act.mk _ _ = a0
      have oe7 : a0.eval (.tmp 7) = .int .i64 ((n : Nat) : Int) := by rw [← ha0]; rfl
      have oe8 : a0.eval (.tmp 8) = .int .i64 ((k : Nat) : Int) := by rw [← ha0]; rfl
      have hsz0 : a0.tmps.size = 21 := by rw [← ha0]; rfl
      have HA0 := hid ha0
      clear ha0
      refine wp_region_S 21 hsz0 [9] [0] ?_
      refine QSeq.pure rfl (.bool true) (fun E => ex_binE rfl (E.v oe8) (E.v oe7) (guard_ints _ _ _ _ _ _) (run_lss_i _ _ _ Try.underlying3) (congrArg Value.bool (decide_eq_true (by omega)))) ?_
      refine QSeq.nil (t' := [_]) rfl ?_
      have ha0 := HA0.out
      subst ha0
      clear HA0 hsz0 oe7 oe8
      simp only [putAll, Act.put, List.setIfInBounds_toArray, List.set_cons_zero, List.set_cons_succ]
      obtain ⟨p, hp⟩ : ∃ p, p = gSt st := ⟨_, rfl⟩
      obtain ⟨x, st2⟩ := p
      have HP1 := hid (congrArg Prod.fst hp.symm)
      have HP2 := hid (congrArg Prod.snd hp.symm)
      clear hp
      dsimp only at HP1 HP2
      have HST2 := hid (show (st2.getD []).length ≤ 900000 by rw [← HP2.out]; exact Nat.le_trans (gSt_suf.len st) HST.out)
      have HGN := hid (show gItems gSt (n - k) acc st = if st2 = none then ([], none) else gItems gSt (n - (k + 1)) (acc ++ [x]) st2 by rw [show n - k = (n - (k + 1)) + 1 by omega]; show (if (gSt st).2 = none then _ else _) = _; rw [HP2.out, HP1.out])
      go_upto_region 4 with (fail)
      generalize ha0 : Act.mk _ _ = a0
      have oe0 : a0.eval (.tmp 0) = .pointer (some ⟨r, 0, none⟩) := by rw [← ha0]; rfl
      have oe1 : a0.eval (.tmp 1) = .func (.func 111) #[] #[] := by rw [← ha0]; rfl
      have oe5 : a0.eval (.tmp 5) = .slice aol acc.length capl := by rw [← ha0]; rfl
      have hsz0 : a0.tmps.size = 21 := by rw [← ha0]; rfl
      have HA0 := hid ha0
      clear ha0
      refine wp_region_S 21 hsz0 [10, 11, 12, 13, 14, 15, 5] [0, 1, 2, 3, 4, 5, 6] ?_
      refine QSeq.pure rfl (.slice aol acc.length capl) (fun E => ex_move rfl (E.y 6 oe5)) ?_
      refine QSeq.pure rfl (.func (.func 111) #[] #[]) (fun E => ex_move rfl (E.v oe1)) ?_
      refine QSeq.pure rfl (.pointer (some ⟨r, 0, none⟩)) (fun E => ex_move rfl (E.v oe0)) ?_
      refine QSeq.go fun act E => ?_
      have ea12 : act.eval (.tmp 12) = .pointer (some ⟨r, 0, none⟩) := (E.d 2 0)
      refine qc_call (args := #[.pointer (some ⟨r, 0, none⟩)]) rfl (wanted_none rfl) (by rw [ex_callV rfl (E.d 1 1) Try.func111 (by kernel_rfl) (by kernel_rfl)]; exact congrArg (fun z => Result.ok (Next.enter _ z) _) (by simp only [List.map_toArray, List.map_cons, List.map_nil, ea12]; try rfl)) ((cSt_G).to HP1.out HP2.out HRL.out (by intro k h1; have hb := HBR.out k h1; omega) HST.out) ?_
      rintro e u4_3 ⟨cs, rfl, qel, qrd, hm⟩
      refine ⟨_, rfl, ?_⟩
      have Hx3 := hid (qel.widen (R' := (fun k => (New wl u4_3 k))) (fun _ h => h))
      have Hx4 := hid qrd
      have zu4_3 := hm.size
      have Cx5 := hid (show Mod (fun k => (R k)) wl u4_3 from hm)
      clear hm
      clear act E qel qrd HRL ea12
      refine QSeq.go fun act E => ?_
      refine qc_buildS (e := 30) (cs := cs) (zc := [.int .i64 0, .int .i64 0, .int .i64 0, .int .u8 0, .int .u8 0, .int .u8 0, .int .u8 0, .int .u8 0, .int .u8 0, .int .u8 0, .int .u8 0, .int .u8 0, .int .u8 0, .int .u8 0, .int .u8 0, .int .u8 0, .int .u8 0, .int .u8 0, .int .u8 0, .int .u8 0, .int .u8 0, .int .u8 0, .int .u8 0, .int .u8 0, .int .u8 0, .int .u8 0, .int .u8 0, .int .u8 0, .int .u8 0, .int .u8 0, .int .u8 0, .int .u8 0, .int .u8 0, .int .u8 0, .int .u8 0, .int .u64 0, .int .i64 0, .int .i64 0]) (sz := 38) rfl (wanted_none rfl) rfl Try.underlying50 (by kernel_rfl) rfl (by decide) (by decide) (E.d 3 0) (StR.len Hx3.out) ?_
      intro u4_4 qrow hm
      have zl4_4 := qrow.lt
      have Hx6 := hid qrow
      have zu4_4 := hm.size
      have HMu4_4 := hid hm
      have Cx7 := hid (Cx5.out.goE hm)
      clear hm Cx5
      clear act E qrow
      refine QSeq.go fun act E => ?_
      refine qc_appS (A := StR) (e := 30) rfl (wanted_none rfl) rfl (.agg #[.int .i64 0, .int .i64 0, .int .i64 0, .int .u8 0, .int .u8 0, .int .u8 0, .int .u8 0, .int .u8 0, .int .u8 0, .int .u8 0, .int .u8 0, .int .u8 0, .int .u8 0, .int .u8 0, .int .u8 0, .int .u8 0, .int .u8 0, .int .u8 0, .int .u8 0, .int .u8 0, .int .u8 0, .int .u8 0, .int .u8 0, .int .u8 0, .int .u8 0, .int .u8 0, .int .u8 0, .int .u8 0, .int .u8 0, .int .u8 0, .int .u8 0, .int .u8 0, .int .u8 0, .int .u8 0, .int .u8 0, .int .u64 0, .int .i64 0, .int .i64 0]) 80 Try.underlying50 info_St (by rfl) (of_decide_eq_true (by kernel_rfl)) (E.d 0 4) (E.d 4 0) ((HAL.out.mod Cx7.out (by intro k h1 h2; have hb := HBR.out k h2; omega) (by intro k h1 h2; have hb := HBR.out k h2; omega))) (RdS.single (R := (fun k => (New wl u4_3 k) ∨ (k = u4_3.heap.size))) Hx6.out ((Hx3.out.mod HMu4_4.out (fun _ _ h => h)).widen (by intro k h1; first | omega | exact h1.elim | exact Or.inl h1 | exact Or.inr (h1))) (by first | exact Or.inr rfl | exact Or.inr (Or.inr rfl) | (right; omega))) (by intro k h1 h2; omega) (by rw [HKA.out]; simp only [List.length_cons, List.length_nil]; omega) (by rw [HKA.out]; simp only [List.length_cons, List.length_nil]; rw [maxLen_val]; omega) ?_
      intro ao4 cap4 u4_5 qout hm
      have Hx8 := hid (qout.widen (R' := (fun k => (New w wl k) ∨ (New u4_4 u4_5 k))) (E' := (fun k => (New w wl k) ∨ (New wl u4_3 k) ∨ (k = u4_3.heap.size))) (fun _ h => h) (by intro k h1; rcases h1 with h1 | (h1 | h1) <;> first | omega | exact h1.elim | exact Or.inl h1 | exact Or.inr (Or.inl h1) | exact Or.inr (Or.inr (h1))))
      have zu4_5 := hm.size
      have HMu4_5 := hid hm
      have Cx9 := hid (Mod.goS (S' := (fun k => (R k) ∨ (New w wl k))) Cx7.out hm (fun _ h => Or.inl h) (by intro k h0 h2; exact Or.inr (h2)))
      clear hm Cx7
      clear act E qout HAL
      refine QSeq.pure rfl (.slice ao4 (acc.length + 1) cap4) (fun E => ex_assign rfl (E.d 5 0)) ?_
      have Hx10 := hid ((Hx4.out.mod HMu4_4.out (fun _ _ h => h)).mod HMu4_5.out (by intro k h1 h2; have hb := HBR.out k h1; omega))
      have Hx11 := hid ((Hx3.out.mod HMu4_4.out (fun _ _ h => h)).mod HMu4_5.out (by intro k h1 h2; omega))
      have Hx12 := hid (Hx6.out.mod HMu4_5.out (by intro h2; omega))
      clear Hx4 Hx3 Hx6 HMu4_4 HMu4_5
      refine QSeq.nil (t' := [_, _, _, _, _, _, _]) rfl ?_
      have ha0 := HA0.out
      subst ha0
      clear HA0 hsz0 oe0 oe1 oe5
      simp only [putAll, Act.put, List.setIfInBounds_toArray, List.set_cons_zero, List.set_cons_succ]
      clear Hx11
      clear Hx12
      cases st2 with
      | none =>
        go_upto_region 5 with (fail)
        generalize ha0 : Act.mk _ _ = a0
        have oe0 : a0.eval (.tmp 0) = .pointer (some ⟨r, 0, none⟩) := by rw [← ha0]; rfl
        have hsz0 : a0.tmps.size = 21 := by rw [← ha0]; rfl
        have HA0 := hid ha0
        clear ha0
        refine wp_region_S 21 hsz0 [16, 17, 18] [0, 1, 2] ?_
        refine QSeq.pure rfl (.pointer (some ⟨r, 0, none⟩)) (fun E => ex_move rfl (E.v oe0)) ?_
        refine QSeq.go fun act E => ?_
        refine qc_callF (args := #[.pointer (some ⟨r, 0, none⟩)]) rfl (wanted_none rfl) rfl Try.func39 (args1 (E.d 0 0)) (OK_R Hx10.out) ?_
        rintro e w2 ⟨rfl, hw2⟩
        obtain rfl : u4_5 = w2 := by first | exact hw2 | exact hw2.symm
        refine ⟨_, rfl, ?_⟩
        clear act E
        refine QSeq.pure rfl (.bool true) (fun E => ex_not rfl (E.d 1 0)) ?_
        refine QSeq.nil (t' := [_, _, _]) rfl ?_
        have ha0 := HA0.out
        subst ha0
        clear HA0 hsz0 oe0
        simp only [putAll, Act.put, List.setIfInBounds_toArray, List.set_cons_zero, List.set_cons_succ]
        go_upto_region 6 with (fail)
        generalize ha0 : Act.mk _ _ = a0
        have hsz0 : a0.tmps.size = 21 := by rw [← ha0]; rfl
        have HA0 := hid ha0
        clear ha0
        refine wp_region_S 21 hsz0 [4] [0] ?_
        refine QSeq.pure rfl (.slice none 0 0) (fun E => ex_assign rfl rfl) ?_
        refine QSeq.nil (t' := [_]) rfl ?_
        have ha0 := HA0.out
        subst ha0
        clear HA0 hsz0
        simp only [putAll, Act.put, List.setIfInBounds_toArray, List.set_cons_zero, List.set_cons_succ]
        go_wp2
        go_ret
        have hq := HG.out
        rw [HGN.out, if_pos trivial] at hq
        have e := HGL.out
        rw [← hq] at e
        refine ⟨_, rfl, ?_, ?_, (HML.out.trans Cx9.out (by intro k h1 h2; rcases h2 with h2 | h2 <;> first | exact h2 | omega | (have hb := HBR.out k h2; omega)))⟩
        · rw [e]; exact RdS.nil _ _ _
        · rw [e]; exact Hx10.out
      | some l2 =>
        go_upto_region 5 with (fail)
        generalize ha0 : Act.mk _ _ = a0
        have oe0 : a0.eval (.tmp 0) = .pointer (some ⟨r, 0, none⟩) := by rw [← ha0]; rfl
        have hsz0 : a0.tmps.size = 21 := by rw [← ha0]; rfl
        have HA0 := hid ha0
        clear ha0
        refine wp_region_S 21 hsz0 [16, 17, 18] [0, 1, 2] ?_
        refine QSeq.pure rfl (.pointer (some ⟨r, 0, none⟩)) (fun E => ex_move rfl (E.v oe0)) ?_
        refine QSeq.go fun act E => ?_
        refine qc_callF (args := #[.pointer (some ⟨r, 0, none⟩)]) rfl (wanted_none rfl) rfl Try.func39 (args1 (E.d 0 0)) (OK_R Hx10.out) ?_
        rintro e w2 ⟨rfl, hw2⟩
        obtain rfl : u4_5 = w2 := by first | exact hw2 | exact hw2.symm
        refine ⟨_, rfl, ?_⟩
        clear act E
        refine QSeq.pure rfl (.bool false) (fun E => ex_not rfl (E.d 1 0)) ?_
        refine QSeq.nil (t' := [_, _, _]) rfl ?_
        have ha0 := HA0.out
        subst ha0
        clear HA0 hsz0 oe0
        simp only [putAll, Act.put, List.setIfInBounds_toArray, List.set_cons_zero, List.set_cons_succ]
        go_upto_region 7 with (fail)
        generalize ha0 : Act.mk _ _ = a0
        have oe8 : a0.eval (.tmp 8) = .int .i64 ((k : Nat) : Int) := by rw [← ha0]; rfl
        have hsz0 : a0.tmps.size = 21 := by rw [← ha0]; rfl
        have HA0 := hid ha0
        clear ha0
        refine wp_region_S 21 hsz0 [19, 8] [0, 1] ?_
        refine QSeq.pure rfl (.int .i64 (((k : Nat) : Int) + 1)) (fun E => ex_binE rfl (E.y 1 oe8) rfl (guard_ints _ _ _ _ _ _) (run_add_i _ _ Try.underlying3) (congrArg (Value.int .i64) (IntWalk.i64_in _ (by omega)))) ?_
        refine QSeq.pure rfl (.int .i64 (((k : Nat) : Int) + 1)) (fun E => ex_move rfl (E.d 0 0)) ?_
        refine QSeq.nil (t' := [_, _]) rfl ?_
        have ha0 := HA0.out
        subst ha0
        clear HA0 hsz0 oe8
        simp only [putAll, Act.put, List.setIfInBounds_toArray, List.set_cons_zero, List.set_cons_succ]
        go_wp2
        go_roundw
        case rel => exact ⟨k + 1, acc ++ [x], some l2, by go_num, by omega, by rw [List.length_append, HKA.out]; rfl, HST2.out, (by have hq := HG.out; rw [HGN.out, if_neg (by simp)] at hq; exact hq), by omega, (Hx8.out.widen (by intro b h1; omega) (by intro b h1; rcases h1 with h1 | h1 | h1 <;> first | omega | exact h1.elim)), Hx10.out, (HML.out.trans Cx9.out (by intro k h1 h2; rcases h2 with h2 | h2 <;> first | exact h2 | omega | (have hb := HBR.out k h2; omega)))⟩
        case measure => simp [intOf] <;> omega
    · obtain rfl : n = k := by omega
      go_upto_region 3 with (fail)
      generalize ha0 : Act.mk _ _ = a0
      have oe7 : a0.eval (.tmp 7) = .int .i64 ((n : Nat) : Int) := by rw [← ha0]; rfl
      have oe8 : a0.eval (.tmp 8) = .int .i64 ((n : Nat) : Int) := by rw [← ha0]; rfl
      have hsz0 : a0.tmps.size = 21 := by rw [← ha0]; rfl
      have HA0 := hid ha0
      clear ha0
      refine wp_region_S 21 hsz0 [9] [0] ?_
      refine QSeq.pure rfl (.bool false) (fun E => ex_binE rfl (E.v oe8) (E.v oe7) (guard_ints _ _ _ _ _ _) (run_lss_i _ _ _ Try.underlying3) (congrArg Value.bool (decide_eq_false (by omega)))) ?_
      refine QSeq.nil (t' := [_]) rfl ?_
      have ha0 := HA0.out
      subst ha0
      clear HA0 hsz0 oe7 oe8
      simp only [putAll, Act.put, List.setIfInBounds_toArray, List.set_cons_zero, List.set_cons_succ]
      go_upto_region 8 with (fail)
      generalize ha0 : Act.mk _ _ = a0
      have oe5 : a0.eval (.tmp 5) = .slice aol acc.length capl := by rw [← ha0]; rfl
      have hsz0 : a0.tmps.size = 21 := by rw [← ha0]; rfl
      have HA0 := hid ha0
      clear ha0
      refine wp_region_S 21 hsz0 [20, 4] [0, 1] ?_
      refine QSeq.pure rfl (.slice aol acc.length capl) (fun E => ex_move rfl (E.v oe5)) ?_
      refine QSeq.pure rfl (.slice aol acc.length capl) (fun E => ex_assign rfl (E.d 0 0)) ?_
      refine QSeq.nil (t' := [_, _]) rfl ?_
      have ha0 := HA0.out
      subst ha0
      clear HA0 hsz0 oe5
      simp only [putAll, Act.put, List.setIfInBounds_toArray, List.set_cons_zero, List.set_cons_succ]
      go_wp2
      go_ret
      have hq := HG.out
      rw [Nat.sub_self] at hq
      have e := HGL.out
      rw [← hq] at e
      refine ⟨_, rfl, ?_, ?_, HML.out⟩
      · rw [e]; exact HAL.out.rd.widen (by intro b h1; (try dsimp only at h1 ⊢); omega)
      · rw [e]; exact HRL.out
set_option maxHeartbeats 4000000 in
theorem cList_Dn : GetsL DnR 125 150 151 gDn := by
  intro R r s w hR hB hl
  have HRD := Lib.hid hR
  have HBR := Lib.hid hB
  have HLN := Lib.hid hl
  clear hR hB hl
  go_enter Try.func150, Try.ntmps150
  go_upto_region 2 with (fail)
  have HM0 := hid (Mod.refl (fun k => (R k)) w)
  go_upto_region 2 with (fail)
  generalize ha0 : Act.mk _ _ = a0
  have oe0 : a0.eval (.tmp 0) = .pointer (some ⟨r, 0, none⟩) := by rw [← ha0]; rfl
  have hsz0 : a0.tmps.size = 21 := by rw [← ha0]; rfl
  have HA0 := hid ha0
  clear ha0
  refine wp_region_S 21 hsz0 [6, 7, 8] [0, 1, 2] ?_
  refine QSeq.pure rfl (.pointer (some ⟨r, 0, none⟩)) (fun E => ex_move rfl (E.v oe0)) ?_
  refine QSeq.go fun act E => ?_
  refine qc_callF (args := #[.pointer (some ⟨r, 0, none⟩), .int .i64 100]) rfl (wanted_none rfl) rfl Try.func115 (args2 (E.d 0 0) rfl) (RInt_R HRD.out (by decide)) ?_
  rintro e u2_1 ⟨rfl, qrd, hm⟩
  refine ⟨_, rfl, ?_⟩
  have Hx1 := hid qrd
  have zu2_1 := hm.size
  have Cx2 := hid (show Mod (fun k => (R k)) w u2_1 from hm)
  clear hm
  clear act E qrd HRD
  refine QSeq.pure rfl (.int .i64 0) (fun E => ex_move rfl rfl) ?_
  refine QSeq.nil (t' := [_, _, _]) rfl ?_
  have ha0 := HA0.out
  subst ha0
  clear HA0 hsz0 oe0
  simp only [putAll, Act.put, List.setIfInBounds_toArray, List.set_cons_zero, List.set_cons_succ]
  obtain ⟨n, hn⟩ : ∃ n, n = (rInt 100 s).1 := ⟨_, rfl⟩
  obtain ⟨s1, hs1⟩ : ∃ z, z = (rInt 100 s).2 := ⟨_, rfl⟩
  have hn100 : n ≤ 100 := by have := rInt_le 100 s; omega
  have HLS := hid (show (s1.getD []).length ≤ 900000 by rw [hs1]; exact Nat.le_trans ((rInt_suf 100).len s) HLN.out)
  have HGL := hid (show gList gDn s = gItems gDn n [] s1 by rw [hn, hs1]; rfl)
  rw [← hn]
  have hq := Hx1.out
  rw [← hs1] at hq
  have HR1 := Lib.hid hq
  clear hq hn hs1 HLN
  go_wp2
  go_loopw [5, 8] (fun ta ti wr => ∃ (k : Nat) (acc : List Dn) (st : RSt), ti = .int .i64 (k : Int) ∧ k ≤ n ∧ acc.length = k ∧ (st.getD []).length ≤ 900000 ∧ gItems gDn (n - k) acc st = gItems gDn n [] s1 ∧ u2_1.heap.size ≤ wr.heap.size ∧ OwS DnR 34 (fun b => w.heap.size ≤ b ∧ b < wr.heap.size) (fun b => w.heap.size ≤ b ∧ b < wr.heap.size) wr ta acc ∧ RrR 125 R wr r st ∧ Mod R w wr) (fun _ ti _ => n - (intOf ti).toNat)
  case atStart => exact ⟨0, [], s1, rfl, Nat.zero_le _, rfl, HLS.out, rfl, Nat.le_refl _, OwS.nil _ _ _ _ _, HR1.out, (HM0.out.trans Cx2.out (fun _ _ h => h))⟩
  case round =>
    obtain ⟨k, acc, st, rfl, hk, hka, hst, hg, hz, ha, hr, hm⟩ := hrel
    obtain ⟨wl, rfl⟩ : ∃ x, x = wr := ⟨_, rfl⟩
    obtain ⟨aol, capl, rfl⟩ := ha.shape
    have HAL := Lib.hid ha
    have HRL := Lib.hid hr
    have HML := Lib.hid hm
    have HST := Lib.hid hst
    have HG := Lib.hid hg
    have HKA := Lib.hid hka
    clear ha hr hm hst hg hka HR1 HM0
    by_cases hlt : k < n
    · skip
      go_upto_region 3 with (fail)
      generalize ha0 : Act.mk _ _ = a0
      have oe7 : a0.eval (.tmp 7) = .int .i64 ((n : Nat) : Int) := by rw [← ha0]; rfl
      have oe8 : a0.eval (.tmp 8) = .int .i64 ((k : Nat) : Int) := by rw [← ha0]; rfl
      have hsz0 : a0.tmps.size = 21 := by rw [← ha0]; rfl
      have HA0 := hid ha0
      clear ha0
      refine wp_region_S 21 hsz0 [9] [0] ?_
      refine QSeq.pure rfl (.bool true) (fun E => ex_binE rfl (E.v oe8) (E.v oe7) (guard_ints _ _ _ _ _ _) (run_lss_i _ _ _ Try.underlying3) (congrArg Value.bool (decide_eq_true (by omega)))) ?_
      refine QSeq.nil (t' := [_]) rfl ?_
      have ha0 := HA0.out
      subst ha0
      clear HA0 hsz0 oe7 oe8
      simp only [putAll, Act.put, List.setIfInBounds_toArray, List.set_cons_zero, List.set_cons_succ]
      obtain ⟨p, hp⟩ : ∃ p, p = gDn st := ⟨_, rfl⟩
      obtain ⟨x, st2⟩ := p
      have HP1 := hid (congrArg Prod.fst hp.symm)
      have HP2 := hid (congrArg Prod.snd hp.symm)
      clear hp
      dsimp only at HP1 HP2
      have HST2 := hid (show (st2.getD []).length ≤ 900000 by rw [← HP2.out]; exact Nat.le_trans (gDn_suf.len st) HST.out)
      have HGN := hid (show gItems gDn (n - k) acc st = if st2 = none then ([], none) else gItems gDn (n - (k + 1)) (acc ++ [x]) st2 by rw [show n - k = (n - (k + 1)) + 1 by omega]; show (if (gDn st).2 = none then _ else _) = _; rw [HP2.out, HP1.out])
      go_upto_region 4 with (fail)
      generalize ha0 : Act.mk _ _ = a0
      have oe0 : a0.eval (.tmp 0) = .pointer (some ⟨r, 0, none⟩) := by rw [← ha0]; rfl
      have oe1 : a0.eval (.tmp 1) = .func (.func 151) #[] #[] := by rw [← ha0]; rfl
      have oe5 : a0.eval (.tmp 5) = .slice aol acc.length capl := by rw [← ha0]; rfl
      have hsz0 : a0.tmps.size = 21 := by rw [← ha0]; rfl
      have HA0 := hid ha0
      clear ha0
      refine wp_region_S 21 hsz0 [10, 11, 12, 13, 14, 15, 5] [0, 1, 2, 3, 4, 5, 6] ?_
      refine QSeq.pure rfl (.slice aol acc.length capl) (fun E => ex_move rfl (E.y 6 oe5)) ?_
      refine QSeq.pure rfl (.func (.func 151) #[] #[]) (fun E => ex_move rfl (E.v oe1)) ?_
      refine QSeq.pure rfl (.pointer (some ⟨r, 0, none⟩)) (fun E => ex_move rfl (E.v oe0)) ?_
      refine QSeq.go fun act E => ?_
      have ea12 : act.eval (.tmp 12) = .pointer (some ⟨r, 0, none⟩) := (E.d 2 0)
      refine qc_call (args := #[.pointer (some ⟨r, 0, none⟩)]) rfl (wanted_none rfl) (by rw [ex_callV rfl (E.d 1 1) Try.func151 (by kernel_rfl) (by kernel_rfl)]; exact congrArg (fun z => Result.ok (Next.enter _ z) _) (by simp only [List.map_toArray, List.map_cons, List.map_nil, ea12]; try rfl)) ((cDn_G).to HP1.out HP2.out HRL.out (by intro k h1; have hb := HBR.out k h1; omega) HST.out) ?_
      rintro e u4_3 ⟨cs, rfl, qel, qrd, hm⟩
      refine ⟨_, rfl, ?_⟩
      have Hx3 := hid (qel.widen (R' := (fun k => (New wl u4_3 k))) (fun _ h => h))
      have Hx4 := hid qrd
      have zu4_3 := hm.size
      have Cx5 := hid (show Mod (fun k => (R k)) wl u4_3 from hm)
      clear hm
      clear act E qel qrd HRL ea12
      refine QSeq.go fun act E => ?_
      refine qc_buildS (e := 34) (cs := cs) (zc := [.int .i64 0, .int .i64 0, .int .i64 0, .int .i64 0]) (sz := 4) rfl (wanted_none rfl) rfl Try.underlying88 (by kernel_rfl) rfl (by decide) (by decide) (E.d 3 0) (DnR.len Hx3.out) ?_
      intro u4_4 qrow hm
      have zl4_4 := qrow.lt
      have Hx6 := hid qrow
      have zu4_4 := hm.size
      have HMu4_4 := hid hm
      have Cx7 := hid (Cx5.out.goE hm)
      clear hm Cx5
      clear act E qrow
      refine QSeq.go fun act E => ?_
      refine qc_appS (A := DnR) (e := 34) rfl (wanted_none rfl) rfl (.agg #[.int .i64 0, .int .i64 0, .int .i64 0, .int .i64 0]) 32 Try.underlying88 info_Dn (by rfl) (of_decide_eq_true (by kernel_rfl)) (E.d 0 4) (E.d 4 0) ((HAL.out.mod Cx7.out (by intro k h1 h2; have hb := HBR.out k h2; omega) (by intro k h1 h2; have hb := HBR.out k h2; omega))) (RdS.single (R := (fun k => (New wl u4_3 k) ∨ (k = u4_3.heap.size))) Hx6.out ((Hx3.out.mod HMu4_4.out (fun _ _ h => h)).widen (by intro k h1; first | omega | exact h1.elim | exact Or.inl h1 | exact Or.inr (h1))) (by first | exact Or.inr rfl | exact Or.inr (Or.inr rfl) | (right; omega))) (by intro k h1 h2; omega) (by rw [HKA.out]; simp only [List.length_cons, List.length_nil]; omega) (by rw [HKA.out]; simp only [List.length_cons, List.length_nil]; rw [maxLen_val]; omega) ?_
      intro ao4 cap4 u4_5 qout hm
      have Hx8 := hid (qout.widen (R' := (fun k => (New w wl k) ∨ (New u4_4 u4_5 k))) (E' := (fun k => (New w wl k) ∨ (New wl u4_3 k) ∨ (k = u4_3.heap.size))) (fun _ h => h) (by intro k h1; rcases h1 with h1 | (h1 | h1) <;> first | omega | exact h1.elim | exact Or.inl h1 | exact Or.inr (Or.inl h1) | exact Or.inr (Or.inr (h1))))
      have zu4_5 := hm.size
      have HMu4_5 := hid hm
      have Cx9 := hid (Mod.goS (S' := (fun k => (R k) ∨ (New w wl k))) Cx7.out hm (fun _ h => Or.inl h) (by intro k h0 h2; exact Or.inr (h2)))
      clear hm Cx7
      clear act E qout HAL
      refine QSeq.pure rfl (.slice ao4 (acc.length + 1) cap4) (fun E => ex_assign rfl (E.d 5 0)) ?_
      have Hx10 := hid ((Hx4.out.mod HMu4_4.out (fun _ _ h => h)).mod HMu4_5.out (by intro k h1 h2; have hb := HBR.out k h1; omega))
      have Hx11 := hid ((Hx3.out.mod HMu4_4.out (fun _ _ h => h)).mod HMu4_5.out (by intro k h1 h2; omega))
      have Hx12 := hid (Hx6.out.mod HMu4_5.out (by intro h2; omega))
      clear Hx4 Hx3 Hx6 HMu4_4 HMu4_5
      refine QSeq.nil (t' := [_, _, _, _, _, _, _]) rfl ?_
      have ha0 := HA0.out
      subst ha0
      clear HA0 hsz0 oe0 oe1 oe5
      simp only [putAll, Act.put, List.setIfInBounds_toArray, List.set_cons_zero, List.set_cons_succ]
      clear Hx11
      clear Hx12
      cases st2 with
      | none =>
        go_upto_region 5 with (fail)
        generalize ha0 : Act.mk _ _ = a0
        have oe0 : a0.eval (.tmp 0) = .pointer (some ⟨r, 0, none⟩) := by rw [← ha0]; rfl
        have hsz0 : a0.tmps.size = 21 := by rw [← ha0]; rfl
        have HA0 := hid ha0
        clear ha0
        refine wp_region_S 21 hsz0 [16, 17, 18] [0, 1, 2] ?_
        refine QSeq.pure rfl (.pointer (some ⟨r, 0, none⟩)) (fun E => ex_move rfl (E.v oe0)) ?_
        refine QSeq.go fun act E => ?_
        refine qc_callF (args := #[.pointer (some ⟨r, 0, none⟩)]) rfl (wanted_none rfl) rfl Try.func39 (args1 (E.d 0 0)) (OK_R Hx10.out) ?_
        rintro e w2 ⟨rfl, hw2⟩
        obtain rfl : u4_5 = w2 := by first | exact hw2 | exact hw2.symm
        refine ⟨_, rfl, ?_⟩
        clear act E
        refine QSeq.pure rfl (.bool true) (fun E => ex_not rfl (E.d 1 0)) ?_
        refine QSeq.nil (t' := [_, _, _]) rfl ?_
        have ha0 := HA0.out
        subst ha0
        clear HA0 hsz0 oe0
        simp only [putAll, Act.put, List.setIfInBounds_toArray, List.set_cons_zero, List.set_cons_succ]
        go_upto_region 6 with (fail)
        generalize ha0 : Act.mk _ _ = a0
        have hsz0 : a0.tmps.size = 21 := by rw [← ha0]; rfl
        have HA0 := hid ha0
        clear ha0
        refine wp_region_S 21 hsz0 [4] [0] ?_
        refine QSeq.pure rfl (.slice none 0 0) (fun E => ex_assign rfl rfl) ?_
        refine QSeq.nil (t' := [_]) rfl ?_
        have ha0 := HA0.out
        subst ha0
        clear HA0 hsz0
        simp only [putAll, Act.put, List.setIfInBounds_toArray, List.set_cons_zero, List.set_cons_succ]
        go_wp2
        go_ret
        have hq := HG.out
        rw [HGN.out, if_pos trivial] at hq
        have e := HGL.out
        rw [← hq] at e
        refine ⟨_, rfl, ?_, ?_, (HML.out.trans Cx9.out (by intro k h1 h2; rcases h2 with h2 | h2 <;> first | exact h2 | omega | (have hb := HBR.out k h2; omega)))⟩
        · rw [e]; exact RdS.nil _ _ _
        · rw [e]; exact Hx10.out
      | some l2 =>
        go_upto_region 5 with (fail)
        generalize ha0 : Act.mk _ _ = a0
        have oe0 : a0.eval (.tmp 0) = .pointer (some ⟨r, 0, none⟩) := by rw [← ha0]; rfl
        have hsz0 : a0.tmps.size = 21 := by rw [← ha0]; rfl
        have HA0 := hid ha0
        clear ha0
        refine wp_region_S 21 hsz0 [16, 17, 18] [0, 1, 2] ?_
        refine QSeq.pure rfl (.pointer (some ⟨r, 0, none⟩)) (fun E => ex_move rfl (E.v oe0)) ?_
        refine QSeq.go fun act E => ?_
        refine qc_callF (args := #[.pointer (some ⟨r, 0, none⟩)]) rfl (wanted_none rfl) rfl Try.func39 (args1 (E.d 0 0)) (OK_R Hx10.out) ?_
        rintro e w2 ⟨rfl, hw2⟩
        obtain rfl : u4_5 = w2 := by first | exact hw2 | exact hw2.symm
        refine ⟨_, rfl, ?_⟩
        clear act E
        refine QSeq.pure rfl (.bool false) (fun E => ex_not rfl (E.d 1 0)) ?_
        refine QSeq.nil (t' := [_, _, _]) rfl ?_
        have ha0 := HA0.out
        subst ha0
        clear HA0 hsz0 oe0
        simp only [putAll, Act.put, List.setIfInBounds_toArray, List.set_cons_zero, List.set_cons_succ]
        go_upto_region 7 with (fail)
        generalize ha0 : Act.mk _ _ = a0
        have oe8 : a0.eval (.tmp 8) = .int .i64 ((k : Nat) : Int) := by rw [← ha0]; rfl
        have hsz0 : a0.tmps.size = 21 := by rw [← ha0]; rfl
        have HA0 := hid ha0
        clear ha0
        refine wp_region_S 21 hsz0 [19, 8] [0, 1] ?_
        refine QSeq.pure rfl (.int .i64 (((k : Nat) : Int) + 1)) (fun E => ex_binE rfl (E.y 1 oe8) rfl (guard_ints _ _ _ _ _ _) (run_add_i _ _ Try.underlying3) (congrArg (Value.int .i64) (IntWalk.i64_in _ (by omega)))) ?_
        refine QSeq.pure rfl (.int .i64 (((k : Nat) : Int) + 1)) (fun E => ex_move rfl (E.d 0 0)) ?_
        refine QSeq.nil (t' := [_, _]) rfl ?_
        have ha0 := HA0.out
        subst ha0
        clear HA0 hsz0 oe8
        simp only [putAll, Act.put, List.setIfInBounds_toArray, List.set_cons_zero, List.set_cons_succ]
        go_wp2
        go_roundw
        case rel => exact ⟨k + 1, acc ++ [x], some l2, by go_num, by omega, by rw [List.length_append, HKA.out]; rfl, HST2.out, (by have hq := HG.out; rw [HGN.out, if_neg (by simp)] at hq; exact hq), by omega, (Hx8.out.widen (by intro b h1; omega) (by intro b h1; rcases h1 with h1 | h1 | h1 <;> first | omega | exact h1.elim)), Hx10.out, (HML.out.trans Cx9.out (by intro k h1 h2; rcases h2 with h2 | h2 <;> first | exact h2 | omega | (have hb := HBR.out k h2; omega)))⟩
        case measure => simp [intOf] <;> omega
    · obtain rfl : n = k := by omega
      go_upto_region 3 with (fail)
      generalize ha0 : Act.mk _ _ = a0
      have oe7 : a0.eval (.tmp 7) = .int .i64 ((n : Nat) : Int) := by rw [← ha0]; rfl
      have oe8 : a0.eval (.tmp 8) = .int .i64 ((n : Nat) : Int) := by rw [← ha0]; rfl
      have hsz0 : a0.tmps.size = 21 := by rw [← ha0]; rfl
      have HA0 := hid ha0
      clear ha0
      refine wp_region_S 21 hsz0 [9] [0] ?_
      refine QSeq.pure rfl (.bool false) (fun E => ex_binE rfl (E.v oe8) (E.v oe7) (guard_ints _ _ _ _ _ _) (run_lss_i _ _ _ Try.underlying3) (congrArg Value.bool (decide_eq_false (by omega)))) ?_
      refine QSeq.nil (t' := [_]) rfl ?_
      have ha0 := HA0.out
      subst ha0
      clear HA0 hsz0 oe7 oe8
      simp only [putAll, Act.put, List.setIfInBounds_toArray, List.set_cons_zero, List.set_cons_succ]
      go_upto_region 8 with (fail)
      generalize ha0 : Act.mk _ _ = a0
      have oe5 : a0.eval (.tmp 5) = .slice aol acc.length capl := by rw [← ha0]; rfl
      have hsz0 : a0.tmps.size = 21 := by rw [← ha0]; rfl
      have HA0 := hid ha0
      clear ha0
      refine wp_region_S 21 hsz0 [20, 4] [0, 1] ?_
      refine QSeq.pure rfl (.slice aol acc.length capl) (fun E => ex_move rfl (E.v oe5)) ?_
      refine QSeq.pure rfl (.slice aol acc.length capl) (fun E => ex_assign rfl (E.d 0 0)) ?_
      refine QSeq.nil (t' := [_, _]) rfl ?_
      have ha0 := HA0.out
      subst ha0
      clear HA0 hsz0 oe5
      simp only [putAll, Act.put, List.setIfInBounds_toArray, List.set_cons_zero, List.set_cons_succ]
      go_wp2
      go_ret
      have hq := HG.out
      rw [Nat.sub_self] at hq
      have e := HGL.out
      rw [← hq] at e
      refine ⟨_, rfl, ?_, ?_, HML.out⟩
      · rw [e]; exact HAL.out.rd.widen (by intro b h1; (try dsimp only at h1 ⊢); omega)
      · rw [e]; exact HRL.out
end Go.Proofs.Ytknpapcfhnhheaa
