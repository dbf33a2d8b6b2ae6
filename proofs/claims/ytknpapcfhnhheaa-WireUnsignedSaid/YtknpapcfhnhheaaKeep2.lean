/- Package gavelkeep: bytes that are lent, that are intact, that are spoilt. -/
import Derived.Test.YtknpapcfhnhheaaKeep
import Derived.Laws.CopyOwn
import Derived.OpenShut
set_option maxRecDepth 100000
namespace Go.Proofs.Ytknpapcfhnhheaa
open Go Go.RowKit Go.Gv

theorem wpList_makeB {w : World} {ops : Array Oper} {rest : List Oper} {o : Oper} {a : Act} {Q : Exit → Act → World → Prop} (hgd : o.guard = none) (l c : Operand)
    (ho : o.op = Op.makeSlice 38 l c) {kl kc : IntKind} {L C : Int} (n m : Nat) (hl : a.eval l = .int kl L) (hc : a.eval c = .int kc C) (hL : L = (n : Int)) (hC : C = (m : Int)) (hnm : n ≤ m) (hm : m ≤ Room)
    (h : wpList Try.prog ops Q rest (a.put o.dst (.slice (some ⟨w.heap.size, 0, none⟩) n m)) (w.alloc (.cells ((List.replicate m 0).map bv).toArray 5))) : wpList Try.prog ops Q (o :: rest) a w := by
  obtain ⟨i0, hi, hz0, hz1, hz2⟩ := info_parts info_u8
  subst hL
  subst hC
  refine wpList_plain hgd fun K hK => ?_
  have hr := run_make (P := Try.prog) w 38 5 i0 (.int .u8 0) Try.underlying38 hi hz0 kl kc n m (by omega) (by omega) (by rw [hz2]; unfold Room at hm; omega) (by unfold Room at hm; omega)
  have e : madeCells (Value.int .u8 0).cells (((m : Int)).toNat * i0.size) = ((List.replicate m 0).map bv).toArray := by
    apply Array.toList_inj.1
    rw [hz1, Nat.mul_one, Int.toNat_natCast]
    show (madeCells #[Value.int .u8 0] m).toList = _
    rw [toList_madeCells_one]
    simp
  rw [e, Int.toNat_natCast, Int.toNat_natCast] at hr
  unfold Oper.wp
  simp only [execOp, ho, hl, hc]
  simp only [Sem.run_bind, hr, Result.andThen_ok, Sem.run_pure]
  exact hK _ _ h

theorem wpList_copyB {w : World} {ops : Array Oper} {rest : List Oper} {o : Oper} {a : Act} {Q : Exit → Act → World → Prop} (hgd : o.guard = none) (d s : Operand)
    (ho : o.op = .call { callee := .builtin .copy, args := #[d, s], argTypes := #[38, 38] }) {g n cap : Nat} {cur : List Int} (hc : Cs w g (cur.map bv).toArray 5)
    {sv : Value} {bs : List Int} (hr : RdB w sv bs) (hd : a.eval d = .slice (some ⟨g, 0, none⟩) n cap) (hs : a.eval s = sv) (hn : bs.length ≤ n) (hm : bs.length ≤ cur.length)
    (h : ∀ w', Cs w' g ((bs ++ cur.drop bs.length).map bv).toArray 5 → Mod (fun k => k = g) w w' → wpList Try.prog ops Q rest (a.put o.dst (goInt bs.length)) w') : wpList Try.prog ops Q (o :: rest) a w := by
  have hsz : (Try.prog.info? 5).map (·.size) = some 1 := by kernel_rfl
  rcases hr.form with ⟨rfl, ao, c2, rfl, _⟩ | ⟨g2, o2, c2, h0, rfl, _, _, hcell⟩
  · refine wpList_copy_nothing hgd d s 38 38 ho 5 Try.underlying38 hsz _ _ _ _ _ _ hd hs (by simp) ?_
    exact h w (by simpa using hc) (Mod.refl _ _)
  · refine wpList_copy_own hgd d s 38 38 ho 5 Try.underlying38 hsz g 0 n cap ⟨g2, o2, none⟩ bs.length c2 hd hs (cur.map bv).toArray 5 hc (bs.map bv) (by rw [List.length_map]; exact (Nat.min_eq_left hn).symm) ?_ (by simpa using hm) (ints_oneCell .u8 bs) ?_
    · intro j u hu
      simp only [List.getElem?_map, Option.map_eq_some_iff] at hu
      obtain ⟨x, hx, rfl⟩ := hu
      obtain ⟨hj, rfl⟩ := List.getElem?_eq_some_iff.1 hx
      rw [add_mk]
      exact hcell j hj
    · rw [List.length_map]
      refine h _ ?_ ⟨rfl, rfl, rfl, by simp [World.setRow], fun k _ hk => setRow_other w g k _ hk⟩
      have := setRow_heap w g _ ((bs ++ cur.drop bs.length).map bv).toArray 5 _ hc
      simpa [Cs, List.map_drop] using this

def lendc (bs : List Int) (k : Nat) : List Int := bs ++ (List.replicate k 85 ++ List.replicate (3 - k) 0)
theorem lendc_len (bs : List Int) (k : Nat) (h : k ≤ 3) : (lendc bs k).length = bs.length + 3 := by simp [lendc]; omega
theorem lendc_set (bs : List Int) (k : Nat) (h : k < 3) : (lendc bs k).set (bs.length + k) 85 = lendc bs (k + 1) := by
  unfold lendc
  rw [List.set_append_right _ _ (by omega)]
  congr 1
  rw [show bs.length + k - bs.length = k by omega]
  match k, h with
  | 0, _ => rfl
  | 1, _ => rfl
  | 2, _ => rfl

/-- bytes that are lent: three more lie behind them -/
def Lent (w : World) (v : Value) (bs : List Int) : Prop := ∃ g, v = .slice (some ⟨g, 0, none⟩) bs.length (bs.length + 3) ∧ Cs w g ((lendc bs 3).map bv).toArray 5

theorem lendc3_get (bs : List Int) (i : Nat) (h : i < bs.length + 3) : (lendc bs 3)[i]'(by rw [lendc_len _ _ (Nat.le_refl _)]; exact h) = if h : i < bs.length then bs[i] else 85 := by
  unfold lendc
  split
  · rename_i hi; rw [List.getElem_append_left hi]
  · rename_i hi
    rw [List.getElem_append_right (by omega)]
    obtain ⟨k, rfl⟩ : ∃ k, i = bs.length + k := ⟨i - bs.length, by omega⟩
    have : k = 0 ∨ k = 1 ∨ k = 2 := by omega
    rcases this with rfl | rfl | rfl <;> simp

end Go.Proofs.Ytknpapcfhnhheaa
