/- Package gavelkeep: bytes that are lent, that are intact, that are spoilt. -/
import Derived.Test.YtfgepphankfbfaaKeep
import Derived.Laws.CopyOwn
import Derived.OpenShut
set_option maxRecDepth 100000
namespace Go.Proofs.Ytfgepphankfbfaa
open Go Go.RowKit Go.Gv

theorem wpList_makeB {w : World} {ops : Array Oper} {rest : List Oper} {o : Oper} {a : Act} {Q : Exit → Act → World → Prop} (hgd : o.guard = none) (l c : Operand)
    (ho : o.op = Op.makeSlice 22 l c) {kl kc : IntKind} {L C : Int} (n m : Nat) (hl : a.eval l = .int kl L) (hc : a.eval c = .int kc C) (hL : L = (n : Int)) (hC : C = (m : Int)) (hnm : n ≤ m) (hm : m ≤ Room)
    (h : wpList Try.prog ops Q rest (a.put o.dst (.slice (some ⟨w.heap.size, 0, none⟩) n m)) (w.alloc (.cells ((List.replicate m 0).map bv).toArray 5))) : wpList Try.prog ops Q (o :: rest) a w := by
  obtain ⟨i0, hi, hz0, hz1, hz2⟩ := info_parts info_u8
  subst hL
  subst hC
  refine wpList_plain hgd fun K hK => ?_
  have hr := run_make (P := Try.prog) w 22 5 i0 (.int .u8 0) Try.underlying22 hi hz0 kl kc n m (by omega) (by omega) (by rw [hz2]; unfold Room at hm; omega) (by unfold Room at hm; omega)
  have e : madeCells (Value.int .u8 0).cells (((m : Int)).toNat * i0.size) = ((List.replicate m 0).map bv).toArray := by
    apply Array.toList_inj.1
    rw [hz1, Nat.mul_one, Int.toNat_natCast]
    show (madeCells #[Value.int .u8 0] m).toList = _
    rw [toList_madeCells_one]
    simp
  rw [e, Int.toNat_natCast, Int.toNat_natCast] at hr
  unfold Oper.wp
  simp only [execOp, ho, hl, hc]
  simp only [Sem.run_bind, hr, Result.andThen_ok, Sem.run_pure]
  exact hK _ _ h

theorem wpList_copyB {w : World} {ops : Array Oper} {rest : List Oper} {o : Oper} {a : Act} {Q : Exit → Act → World → Prop} (hgd : o.guard = none) (d s : Operand)
    (ho : o.op = .call { callee := .builtin .copy, args := #[d, s], argTypes := #[22, 22] }) {g n cap : Nat} {cur : List Int} (hc : Cs w g (cur.map bv).toArray 5)
    {sv : Value} {bs : List Int} (hr : RdB w sv bs) (hd : a.eval d = .slice (some ⟨g, 0, none⟩) n cap) (hs : a.eval s = sv) (hn : bs.length ≤ n) (hm : bs.length ≤ cur.length)
    (h : ∀ w', Cs w' g ((bs ++ cur.drop bs.length).map bv).toArray 5 → Mod (fun k => k = g) w w' → wpList Try.prog ops Q rest (a.put o.dst (goInt bs.length)) w') : wpList Try.prog ops Q (o :: rest) a w := by
  have hsz : (Try.prog.info? 5).map (·.size) = some 1 := by kernel_rfl
  rcases hr.form with ⟨rfl, ao, c2, rfl, _⟩ | ⟨g2, o2, c2, h0, rfl, _, _, hcell⟩
  · refine wpList_copy_nothing hgd d s 22 22 ho 5 Try.underlying22 hsz _ _ _ _ _ _ hd hs (by simp) ?_
    exact h w (by simpa using hc) (Mod.refl _ _)
  · refine wpList_copy_own hgd d s 22 22 ho 5 Try.underlying22 hsz g 0 n cap ⟨g2, o2, none⟩ bs.length c2 hd hs (cur.map bv).toArray 5 hc (bs.map bv) (by rw [List.length_map]; exact (Nat.min_eq_left hn).symm) ?_ (by simpa using hm) (ints_oneCell .u8 bs) ?_
    · intro j u hu
      simp only [List.getElem?_map, Option.map_eq_some_iff] at hu
      obtain ⟨x, hx, rfl⟩ := hu
      obtain ⟨hj, rfl⟩ := List.getElem?_eq_some_iff.1 hx
      rw [add_mk]
      exact hcell j hj
    · rw [List.length_map]
      refine h _ ?_ ⟨rfl, rfl, rfl, by simp [World.setRow], fun k _ hk => setRow_other w g k _ hk⟩
      have := setRow_heap w g _ ((bs ++ cur.drop bs.length).map bv).toArray 5 _ hc
      simpa [Cs, List.map_drop] using this

def lendc (bs : List Int) (k : Nat) : List Int := bs ++ (List.replicate k 85 ++ List.replicate (3 - k) 0)
theorem lendc_len (bs : List Int) (k : Nat) (h : k ≤ 3) : (lendc bs k).length = bs.length + 3 := by simp [lendc]; omega
theorem lendc_set (bs : List Int) (k : Nat) (h : k < 3) : (lendc bs k).set (bs.length + k) 85 = lendc bs (k + 1) := by
  unfold lendc
  rw [List.set_append_right _ _ (by omega)]
  congr 1
  rw [show bs.length + k - bs.length = k by omega]
  match k, h with
  | 0, _ => rfl
  | 1, _ => rfl
  | 2, _ => rfl

/-- bytes that are lent: three more lie behind them -/
def Lent (w : World) (v : Value) (bs : List Int) : Prop := ∃ g, v = .slice (some ⟨g, 0, none⟩) bs.length (bs.length + 3) ∧ Cs w g ((lendc bs 3).map bv).toArray 5

theorem Lend_any (ao : Option Addr) (len cap : Nat) (bs : List Int) (w : World) (hr : RdB w (.slice ao len cap) bs) (hl : bs.length ≤ 1000000) :
    Calls Try.prog 38 #[.slice ao len cap] w fun e w' => e = .returned (.slice (some ⟨w.heap.size, 0, none⟩) bs.length (bs.length + 3)) ∧ Lent w' (.slice (some ⟨w.heap.size, 0, none⟩) bs.length (bs.length + 3)) bs ∧ Mod (fun _ => False) w w' := by
  obtain ⟨rfl, hlc, hcm⟩ := hr.len
  rw [maxLen_val] at hcm
  have HR := Lib.hid hr
  clear hr
  have Hroom : Hid (bs.length + 3 ≤ Room) := Lib.hid (by unfold Room; omega)
  go_enter Try.func38, Try.ntmps38
  have hc1 := Cs.new w ((List.replicate (bs.length + 3) 0).map bv).toArray 5
  have hr1 := HR.out.alloc (.cells ((List.replicate (bs.length + 3) 0).map bv).toArray 5)
  have hm1 : Mod (fun _ => False) w (w.alloc (.cells ((List.replicate (bs.length + 3) 0).map bv).toArray 5)) := (Mod.refl _ _).alloc _
  have HW1 := Lib.hid (⟨_, rfl, hc1, hr1, hm1⟩ : ∃ w1, w.alloc (.cells ((List.replicate (bs.length + 3) 0).map bv).toArray 5) = w1 ∧ Cs w1 w.heap.size ((List.replicate (bs.length + 3) 0).map bv).toArray 5 ∧ RdB w1 (.slice ao bs.length cap) bs ∧ Mod (fun _ => False) w w1)
  clear hc1 hr1 hm1 HR
  go_wp2_with (first
    | (at_make; go_must (refine wpList_makeB rfl (.tmp 7) (.tmp 10) rfl bs.length (bs.length + 3) rfl rfl rfl (by omega) (by omega) Hroom.out ?_); obtain ⟨w1, e1, hc1, hr1, hm1⟩ := HW1.out; rw [e1]; have HC := Lib.hid hc1; have HR1 := Lib.hid hr1; have HM1 := Lib.hid hm1; clear hc1 hr1 hm1 e1)
    | ((with_reducible show wpList _ _ _ (Oper.mk (some 14) _ _ _ _ _ :: _) _ _); go_must (refine wpList_copyB rfl (.tmp 12) (.tmp 13) rfl HC.out HR1.out rfl rfl (Nat.le_refl _) (by simp) ?_); intro w2 hc2 hb2; have hcs : Cs w2 w.heap.size ((lendc bs 0).map bv).toArray 5 := (by simpa [lendc, List.drop_replicate] using hc2); have HC2 := Lib.hid hcs; have HM2 := Lib.hid (HM1.out.trans hb2 (fun i hi h => by omega)); clear hc2 hb2 hcs))
  go_loopw [5] (fun i wr => ∃ k : Nat, k ≤ 3 ∧ i = .int .i64 ((bs.length + k : Nat) : Int) ∧ Cs wr w.heap.size ((lendc bs k).map bv).toArray 5 ∧ Mod (fun _ => False) w wr) (fun i _ => bs.length + 3 - (intOf i).toNat)
  case atStart => exact ⟨0, by omega, rfl, HC2.out, HM2.out⟩
  case round =>
    obtain ⟨k, hk, rfl, hcs, hm⟩ := hrel
    have HCS := Lib.hid hcs
    have HM := Lib.hid hm
    clear hcs hm
    by_cases hlt : k < 3
    · have hc : wr.cell? ⟨w.heap.size, bs.length + k, none⟩ = some (bv ((lendc bs k)[bs.length + k]'(by rw [lendc_len _ _ hk]; omega))) := by
        rw [HCS.out.cell]; simp
      have hf := HCS.out.frozen (bs.length + k)
      go_wp2
      go_roundw
      case rel =>
        refine ⟨k + 1, by omega, by go_num, ?_, HM.out.setCell (fun h => by simp at h) _⟩
        have := HCS.out.set (bs.length + k) (bv 85)
        rw [← lendc_set bs k hlt]
        simpa [List.map_set] using this
      case measure => simp [intOf]; omega
    · obtain rfl : k = 3 := by omega
      go_wp2
      go_ret
      exact ⟨rfl, ⟨_, rfl, HCS.out⟩, HM.out⟩

theorem lendc3_get (bs : List Int) (i : Nat) (h : i < bs.length + 3) : (lendc bs 3)[i]'(by rw [lendc_len _ _ (Nat.le_refl _)]; exact h) = if h : i < bs.length then bs[i] else 85 := by
  unfold lendc
  split
  · rename_i hi; rw [List.getElem_append_left hi]
  · rename_i hi
    rw [List.getElem_append_right (by omega)]
    obtain ⟨k, rfl⟩ : ∃ k, i = bs.length + k := ⟨i - bs.length, by omega⟩
    have : k = 0 ∨ k = 1 ∨ k = 2 := by omega
    rcases this with rfl | rfl | rfl <;> simp

set_option maxHeartbeats 1000000 in
theorem Intact_any (vo : Value) (ao : Option Addr) (len cap : Nat) (bs : List Int) (w : World) (ho : Lent w vo bs) (hr : RdB w (.slice ao len cap) bs) (hl : bs.length ≤ 1000000) :
    Calls Try.prog 39 #[vo, .slice ao len cap] w fun e w' => e = .returned (.bool true) ∧ ∃ n, w' = w.drewN n := by
  obtain ⟨rfl, hlc, hcm⟩ := hr.len
  obtain ⟨g, rfl, hc⟩ := ho
  rw [maxLen_val] at hcm
  have hcell : ∀ i (hi : i < bs.length + 3), w.cell? ⟨g, i, none⟩ = some (bv (if h : i < bs.length then bs[i] else 85)) := by
    intro i hi
    rw [hc.cell, ← lendc3_get bs i hi]
    simp
  have h1 : (((bs.length : Int)) != bs.length) = false := by simp
  have h2 : (((bs.length : Int) + 3) != (bs.length : Int) + 3) = false := by simp
  have HC := Lib.hid hcell
  have HR := Lib.hid hr
  clear hcell hr hc
  go_enter Try.func39, Try.ntmps39
  go_wp2
  go_loopw [27, 6] (fun i _ wr => ∃ k : Nat, k ≤ bs.length + 3 ∧ i = .int .i64 k ∧ ∃ n, wr = w.drewN n) (fun i _ _ => bs.length + 3 - (intOf i).toNat)
  case atStart => exact ⟨0, by omega, rfl, 0, rfl⟩
  case round =>
    obtain ⟨k, hk, rfl, n, rfl⟩ := hrel
    by_cases hlt : k < bs.length
    · have c1 : w.cell? ⟨g, k, none⟩ = some (bv bs[k]) := by have := HC.out k (by omega); rw [dif_pos hlt] at this; exact this
      rcases HR.out.form with ⟨h0, _⟩ | ⟨g2, o2, c2, h0, e, _, _, hc2⟩
      · rw [h0] at hlt; simp at hlt
      · simp only [Value.slice.injEq] at e
        obtain ⟨rfl, _, rfl⟩ := e
        have c2 : w.cell? ⟨g2, o2 + k, none⟩ = some (bv bs[k]) := hc2 k hlt
        have hd : decide (bs.length ≤ k) = false := by simp; omega
        have hi : (k : Int) < (bs.length : Int) := by omega
        have hi3 : (k : Int) < (bs.length : Int) + 3 := by omega
        have hne : (bs[k] != bs[k]) = false := by simp
        clear hc2
        go_wp2
        go_quiet (fail)
        go_wp2
        go_roundw
        case rel => exact ⟨k + 1, by omega, by go_num, _, rfl⟩
        case measure => simp [intOf]; omega
    · by_cases hlt3 : k < bs.length + 3
      · have hi : (bs.length : Int) ≤ (k : Int) := by omega
        have hi3 : (k : Int) < (bs.length : Int) + 3 := by omega
        have c1 : w.cell? ⟨g, k, none⟩ = some (bv 85) := by have := HC.out k (by omega); rw [dif_neg hlt] at this; exact this
        have hd : decide (k < bs.length) = false := by simp; omega
        go_wp2
        go_quiet (fail)
        go_wp2
        go_roundw
        case rel => exact ⟨k + 1, by omega, by go_num, _, rfl⟩
        case measure => simp [intOf]; omega
      · go_wp2
        go_ret
        exact ⟨rfl, n, rfl⟩

end Go.Proofs.Ytfgepphankfbfaa
