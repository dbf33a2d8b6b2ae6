/- Made again; names as arguments. -/
import Derived.Test.YtgnmdnmmemdemaaCm6
import Derived.Test.YtgnmdnmmemdemaaCmEq
import Derived.Test.YtgnmdnmmemdemaaHashArg
set_option maxRecDepth 100000
set_option linter.unusedVariables false
namespace Go.Proofs.Ytgnmdnmmemdemaa
open Go Go.RowKit Go.Gv Go.ChangeShapes Go.WideShapes Go.ChangeAt Go.Deep

theorem cm_eql (c d : Cm) (hl : c.h.length = 32) (e : c = d) (w : World) : (binOp .eql 32 c.val d.val).run Try.prog w = .ok (.bool true) w := by
  subst e
  have := eqIn_commit w 9997 c.cl c.sq c.ln c.sb c.mr c.h hl
  rw [show c.val = .agg c.cells.toArray from rfl, run_eql_struct]
  rw [show (Op.equalIn 10000 32 (.agg c.cells.toArray) (.agg c.cells.toArray)).run Try.prog w = .ok true w from this]
  rfl
theorem sig_eql (a b a' b' : Int) (w : World) : (binOp .eql 30 (.agg #[.int .i64 a, .int .i64 b]) (.agg #[.int .i64 a', .int .i64 b'])).run Try.prog w = .ok (.bool (a == a' && b == b')) w := by
  rw [run_eql_struct, eqIn_sig w 9998 a b a' b']
  rfl
theorem name_eql (a b a' b' : Int) (w : World) : (binOp .eql 26 (.agg #[.int .i64 a, .int .i64 b]) (.agg #[.int .i64 a', .int .i64 b'])).run Try.prog w = .ok (.bool (a == a' && b == b')) w := by
  rw [run_eql_struct, eqIn_name w 9998 a b a' b']
  rfl
theorem agg_guard (op : BinOp) (T : TypeId) (x y : Operand) (a b : Array Value) (h : Try.prog.eqGuardType Try.prog.depth T = false) (w : World) : (eqGuard op T x y (.agg a) (.agg b)).run Try.prog w = .ok () w := run_eqGuard_agg (P := Try.prog) w op T x y a b h
theorem mkBook_again (L : List (Int × List Int)) (a b : Int) (h bs : List Int) : mkBook (mkBook L a b h bs) a b h bs = mkBook L a b h bs := by
  show signF (signF L _) _ = signF L _
  conv => lhs; unfold signF
  rw [if_neg (by have := signF_pos L (mkKey a b h bs); unfold signF at this; exact this)]
  unfold signF
  rfl
theorem mkCm_again (L : List (Int × List Int)) (a b : Int) (h bs : List Int) : mkCm (mkBook L a b h bs) a b h bs = mkCm L a b h bs := by
  unfold mkCm
  rw [mkBook_again]
theorem laid_op {i : Int} {v : Value} {h : List Int} (hl : h.length = 32) (hc : v.cells = #[v]) : laid [(0, 1), (1, 1), (2, 32)] [.int .i64 0, .slice none 0 0, .int .u8 0, .int .u8 0, .int .u8 0, .int .u8 0, .int .u8 0, .int .u8 0, .int .u8 0, .int .u8 0, .int .u8 0, .int .u8 0, .int .u8 0, .int .u8 0, .int .u8 0, .int .u8 0, .int .u8 0, .int .u8 0, .int .u8 0, .int .u8 0, .int .u8 0, .int .u8 0, .int .u8 0, .int .u8 0, .int .u8 0, .int .u8 0, .int .u8 0, .int .u8 0, .int .u8 0, .int .u8 0, .int .u8 0, .int .u8 0, .int .u8 0, .int .u8 0] [(0, .int .i64 i), (1, v), (2, hv h)] = some (opC i v h) := by
  have h1 : (hv h).cells.toList = h.map bv := by simp [hv, Value.cells]
  have h2 : (hv h).cells.size = 32 := by simp [hv, Value.cells, hl]
  unfold laid
  simp only [List.getElem?_cons_zero]
  rw [if_neg (by simp [Value.cells])]
  unfold laid
  simp only [List.getElem?_cons_succ, List.getElem?_cons_zero]
  rw [if_neg (by rw [hc]; simp [Value.cells])]
  unfold laid
  simp only [List.getElem?_cons_succ, List.getElem?_cons_zero]
  rw [if_neg (by rw [h2, hc]; simp [Value.cells]), h1, hc]
  unfold laid
  simp [opC, Value.cells]
theorem laid_op0 {h : List Int} (hl : h.length = 32) : laid [(0, 1), (1, 1), (2, 32)] [.int .i64 0, .slice none 0 0, .int .u8 0, .int .u8 0, .int .u8 0, .int .u8 0, .int .u8 0, .int .u8 0, .int .u8 0, .int .u8 0, .int .u8 0, .int .u8 0, .int .u8 0, .int .u8 0, .int .u8 0, .int .u8 0, .int .u8 0, .int .u8 0, .int .u8 0, .int .u8 0, .int .u8 0, .int .u8 0, .int .u8 0, .int .u8 0, .int .u8 0, .int .u8 0, .int .u8 0, .int .u8 0, .int .u8 0, .int .u8 0, .int .u8 0, .int .u8 0, .int .u8 0, .int .u8 0] [(2, hv h)] = some (opC 0 (.slice none 0 0) h) := by
  have h1 : (hv h).cells.toList = h.map bv := by simp [hv, Value.cells]
  have h2 : (hv h).cells.size = 32 := by simp [hv, Value.cells, hl]
  unfold laid
  simp only [List.getElem?_cons_succ, List.getElem?_cons_zero]
  rw [if_neg (by rw [h2]; simp [Value.cells]), h1]
  unfold laid
  simp [opC]
theorem laid_op1 {v : Value} {h : List Int} (hl : h.length = 32) (hc : v.cells = #[v]) : laid [(0, 1), (1, 1), (2, 32)] [.int .i64 0, .slice none 0 0, .int .u8 0, .int .u8 0, .int .u8 0, .int .u8 0, .int .u8 0, .int .u8 0, .int .u8 0, .int .u8 0, .int .u8 0, .int .u8 0, .int .u8 0, .int .u8 0, .int .u8 0, .int .u8 0, .int .u8 0, .int .u8 0, .int .u8 0, .int .u8 0, .int .u8 0, .int .u8 0, .int .u8 0, .int .u8 0, .int .u8 0, .int .u8 0, .int .u8 0, .int .u8 0, .int .u8 0, .int .u8 0, .int .u8 0, .int .u8 0, .int .u8 0, .int .u8 0] [(1, v), (2, hv h)] = some (opC 0 v h) := by
  have h1 : (hv h).cells.toList = h.map bv := by simp [hv, Value.cells]
  have h2 : (hv h).cells.size = 32 := by simp [hv, Value.cells, hl]
  unfold laid
  simp only [List.getElem?_cons_succ, List.getElem?_cons_zero]
  rw [if_neg (by rw [hc]; simp [Value.cells])]
  unfold laid
  simp only [List.getElem?_cons_succ, List.getElem?_cons_zero]
  rw [if_neg (by rw [h2, hc]; simp [Value.cells]), h1, hc]
  unfold laid
  simp [opC, Value.cells]
theorem name_of_trod {H : Type} {enc : TypeId × Value → H} {W : World} {base : Nat} {v : Value} {d : DataW H} {p : List MemPlace} (hv' : Value.okWide Try.prog W .any base 26 v)
    (h : DataW.Trod enc Try.prog W 0 (fun _ => true) true 26 v d p) : ∃ a b : Int, v = .agg #[.int .i64 a, .int .i64 b] ∧ I64 a ∧ I64 b := by
  obtain ⟨fuel, hf⟩ := h
  simp only [Value.okWide, Try.underlying26] at hv'
  obtain ⟨cs, rfl, -, -⟩ := hv'
  obtain ⟨xs, n, _, -, hl, hn, hf⟩ := DataW.trod_struct Try.underlying26 hf
  rw [show Try.prog.cellsOf 26 = 2 from by kernel_rfl] at hl
  have f0 : DataW.trod enc Try.prog W 0 (fun _ => true) true n 3 (((Value.agg cs).cells.toList.drop 0).take (Try.prog.cellsOf 3)) = xs[0]? := hf 0 _ rfl
  have f1 : DataW.trod enc Try.prog W 0 (fun _ => true) true n 3 (((Value.agg cs).cells.toList.drop 1).take (Try.prog.cellsOf 3)) = xs[1]? := hf 1 _ rfl
  have hxs : xs.length = 2 := hn
  rw [List.getElem?_eq_getElem (by omega), show Try.prog.cellsOf 3 = 1 from by kernel_rfl] at f0 f1
  obtain ⟨l⟩ := cs
  simp only [Value.cells] at hl f0 f1
  match l, hl with
  | [c0, c1], _ =>
    simp only [List.drop_zero, List.drop_succ_cons, List.take_succ_cons, List.take_zero] at f0 f1
    obtain ⟨q0, e0, _, w0⟩ := DataW.trod_int Try.underlying3 f0
    obtain ⟨q1, e1, _, w1⟩ := DataW.trod_int Try.underlying3 f1
    simp at e0 e1
    subst e0 e1
    exact ⟨q0, q1, rfl, bounds_i64 w0, bounds_i64 w1⟩
def NmSt (g : Nat) (z c : List Value) : Nat → List Value → World → Prop := ResSt g 26 z c
def TwoSt (g b : Nat) (L0 L1 L2 : List (Int × List Int)) : Nat → List Value → World → Prop := fun k _ w => match k with
  | 0 => BookIs w g b L0
  | 1 => BookIs w g b L1
  | _ => BookIs w g b L2
theorem TwoSt_mod {S : Nat → Prop} {g b : Nat} {L0 L1 L2 : List (Int × List Int)} {k : Nat} {t : List Value} {w w' : World} (h : TwoSt g b L0 L1 L2 k t w) (hm : Mod S w w') (h1 : ¬ S g) (h2 : ¬ S b) : TwoSt g b L0 L1 L2 k t w' := by
  match k, h with
  | 0, h | 1, h => exact BookIs.mod h hm h1 h2
  | k + 2, h => exact BookIs.mod h hm h1 h2
theorem TwoSt_still {g b : Nat} {L0 L1 L2 : List (Int × List Int)} : ∀ k t w w', TwoSt g b L0 L1 L2 k t w → Mod (fun _ => False) w w' → TwoSt g b L0 L1 L2 k t w' := fun _ _ _ _ h hm => TwoSt_mod h hm (fun h => h) (fun h => h)
end Go.Proofs.Ytgnmdnmmemdemaa
