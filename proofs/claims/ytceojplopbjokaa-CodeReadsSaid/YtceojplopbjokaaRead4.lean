/- gavelref01.Reader: hashes. -/
import Derived.Test.YtceojplopbjokaaRead3
set_option maxRecDepth 100000
set_option linter.unusedVariables false
namespace Go.Proofs.Ytceojplopbjokaa
open Go Go.RowKit Go.Gv

theorem fill_step (l : List Int) (i : Nat) (h : i < 32) (hl : 32 ≤ l.length) : ((l.take i ++ List.replicate (32 - i) 0).map bv).toArray.setIfInBounds i (bv l[i]) = ((l.take (i + 1) ++ List.replicate (32 - (i + 1)) 0).map bv).toArray := by
  rw [List.setIfInBounds_toArray, ← List.map_set]
  congr 2
  rw [show 32 - i = (32 - (i + 1)) + 1 by omega, List.replicate_succ, List.set_append_right _ _ (by simp; omega), List.take_succ_eq_append_getElem (by omega), List.length_take, Nat.min_eq_left (by omega), Nat.sub_self, List.set_cons_zero, List.append_assoc]
  rfl

theorem fill_get (l : List Int) (i : Nat) (h : i < 32) (hl : 32 ≤ l.length) : ((l.take i ++ List.replicate (32 - i) 0).map bv).toArray[i]? = some (bv 0) := by
  have h1 : (l.take i).length = i := by rw [List.length_take]; omega
  have h2 : (l.take i ++ List.replicate (32 - i) (0 : Int))[i]? = some 0 := by
    rw [List.getElem?_append_right (by omega), h1, Nat.sub_self, show 32 - i = (32 - (i + 1)) + 1 by omega, List.replicate_succ]; rfl
  rw [List.getElem?_toArray, List.getElem?_map, h2]; rfl

set_option maxHeartbeats 1000000 in
theorem RefRHash_works (r : Nat) (v : Value) (s : RSt) (w : World) (hR : Rr 75 w r v s) (h32 : 32 ≤ (s.getD []).length) :
    Calls Try.prog 57 #[.pointer (some ⟨r, 0, none⟩)] w fun e w' => e = .returned (hv ((s.getD []).take 32)) ∧ RrTo 75 w r v (s.map (List.drop 32)) w' := by
  have hlt := hR.1.lt
  have c0 : w.cell? ⟨r, 0, none⟩ = some v := (hR.1.cell 0).trans rfl
  obtain ⟨w2, e2, hR2, hc2, hd2, hm2⟩ := two_hashes hR
  have hgd : (s.map (List.drop 32)).getD [] = (s.getD []).drop 32 := by cases s <;> simp
  have hns : s.isNone = (s.map (List.drop 32)).isNone := by cases s <;> rfl
  have HGD := Lib.hid hgd
  have HNS := Lib.hid hns
  have hz := hR2.1.frozen 0
  have HR0 := Lib.hid hR
  rcases hR.2.1.form with ⟨h0, _⟩ | ⟨g, o, cap, hpos, rfl, hlc, hcm, hcell⟩
  · rw [h0] at h32; simp at h32
  have hgb : g < w.heap.size := hR.2.1.block_lt hpos g rfl
  have hgr : g ≠ r := by have := hR.2.2 (by omega) g rfl; simpa using this
  rw [maxLen_val] at hcm
  have E2 := Lib.hid e2
  have HC2 := Lib.hid hc2
  have HD2 := Lib.hid hd2
  have HM2 := Lib.hid hm2
  have HR2 := Lib.hid hR2
  have HCELL := Lib.hid hcell
  clear e2 hc2 hd2 hm2 hR2 hR hcell hz hgd hns
  generalize hl : s.getD [] = l at *
  have HL := Lib.hid hl
  clear hl
  go_enter Try.func57, Try.ntmps57
  go_wp2
  rw [E2.out]
  go_loopw [14] (fun t14 wr => ∃ i : Nat, t14 = .int .i64 i ∧ i ≤ 32 ∧ Cs wr (w.heap.size + 1) ((l.take i ++ List.replicate (32 - i) 0).map bv).toArray 39 ∧ Mod (fun k => k = w.heap.size + 1) w2 wr) (fun t14 _ => 32 - (intOf t14).toNat)
  case atStart => exact ⟨0, rfl, by omega, by simpa using HD2.out, Mod.refl _ _⟩
  case round =>
    obtain ⟨i, rfl, hi, hD, hm⟩ := hrel
    have hR3 : Rr 75 wr r (.slice (some ⟨g, o, none⟩) l.length cap) s := HR2.out.mod hm (by omega) (by intro _ g' hg' h; simp [Value.ownBlock] at hg'; omega)
    have c1 : wr.cell? ⟨r, 0, none⟩ = some (.slice (some ⟨g, o, none⟩) l.length cap) := (hR3.1.cell 0).trans rfl
    have f1 := hR3.1.frozen 0
    have hlt1 := hR3.1.lt
    have HR3 := Lib.hid hR3
    have HD := Lib.hid hD
    have HM := Lib.hid hm
    clear hR3
    by_cases hi32 : i < 32
    · have hc : wr.cell? ⟨g, o + i, none⟩ = some (bv l[i]) := hm.cell (HM2.out.cell (HCELL.out i (by omega)) id) (by show g ≠ _; omega)
      have hf := hD.frozen i
      have hd : wr.cell? ⟨w.heap.size + 1, i, none⟩ = some (bv 0) := by
        rw [hD.cell]; exact fill_get l i hi32 h32
      have HF := Lib.hid (fill_step l i hi32 h32)
      generalize l[i] = c at *
      clear hD hm
      go_wp2
      go_roundw
      case rel => exact ⟨i + 1, by go_num, by omega, by rw [← HF.out]; exact HD.out.set i _, HM.out.setCell (fun _ => rfl) _⟩
      case measure => simp [intOf]; omega
    · obtain rfl : i = 32 := by omega
      have hdf : ((l.take 32 ++ List.replicate (32 - 32) 0).map bv).toArray = ((l.take 32).map bv).toArray := by simp
      rw [hdf] at HD
      clear hdf hD hm
      have hl32 : (l.take 32).length = 32 := by simp; omega
      have HSB := Lib.hid (show (Try.prog.info? 39).map (·.size) = some ((l.take 32).map bv).length by rw [List.length_map, hl32]; exact size_hash)
      have hc32 := HC2.out.mod HM.out (by omega)
      have HC3 := Lib.hid hc32
      have HL32 := Lib.hid hl32
      clear hc32 hl32
      generalize hb32 : l.take 32 = b32 at *
      have HB32 := Lib.hid hb32
      clear hb32
      have hwd : ∀ u j x, (b32.map bv)[j]? = some x → (wr.setCell ⟨r, 0, none⟩ u).cell? ⟨w.heap.size + 1, 0 + j, none⟩ = some x := by
        intro u j x hx
        have h2 : Cs (wr.setCell ⟨r, 0, none⟩ u) (w.heap.size + 1) _ _ := HD.out.other (by show w.heap.size + 1 ≠ r; omega) u
        rw [Nat.zero_add, h2.cell]; simpa using hx
      have HWD := Lib.hid hwd
      have HFIT := Lib.hid (show 0 + (b32.map bv).length ≤ ((List.replicate 32 0).map bv).toArray.size by simp [HL32.out])
      clear hwd
      go_wp2_with (first
        | ((with_reducible show wpList _ _ _ (Oper.mk (some 35) _ _ _ _ _ :: _) _ _); go_must (refine wpList_loadA rfl 39 (.tmp 3) rfl Try.underlying39 rfl (cs := b32.map bv) HSB.out rfl (HWD.out _) ?_))
        | ((with_reducible show wpList _ _ _ (Oper.mk none (Op.store 39 (.tmp 2) (.tmp 35)) _ _ _ _ :: _) _ _); go_must (refine wpList_storeA rfl 39 (.tmp 2) (.tmp 35) rfl (HC3.out.other (by show w.heap.size ≠ r; omega) _) (vs := b32.map bv) HSB.out (ints_oneCell .u8 _) HFIT.out rfl rfl ?_); intro w4 hc4 hm4; have HC4 := Lib.hid hc4; have HM4 := Lib.hid hm4; clear hc4 hm4))
      all_goals
        have hc4 := HC4.out
        rw [lay_whole _ _ (by simp [HL32.out])] at hc4
        refine bodyPost_ret (results_cellA rfl _ _ w.heap.size (b32.map bv) rfl (fun j u hu => by rw [hc4.cell]; simpa using hu) Try.underlying39 rfl HSB.out) rfl ⟨by rw [HB32.out]; rfl, ?_⟩
        have hmw : Mod (fun _ => False) w wr := HM2.out.trans HM.out (fun i hi h => by omega)
        have hrl := HR0.out.2.1
        rw [HL.out] at hrl
        have hm4 := HM4.out
      · have hcap : cap = 32 := by assumption
        subst hcap
        obtain ⟨v', q1, q2, q3⟩ := Rr_tail HR0.out.1 HR0.out.2.2 (s2 := s.map (List.drop 32)) (by rw [HGD.out]; exact hrl.tail_at 32 (by omega) rfl) (fun h => by rw [HGD.out] at h; simp at h; omega) hmw (by rw [HGD.out, HL.out]; simp) HNS.out
        refine ⟨v', ⟨q1.1.mod hm4 (by omega), q1.2.1.mod hm4 ?_, q1.2.2⟩, q2.trans (hm4.mono (S' := fun k => w.heap.size ≤ k) (fun k _ h => by omega)) (fun i hi h => by omega), q3⟩
        intro h0 g' hg' e
        rw [HGD.out] at h0; simp at h0; omega
      · have hcap : ¬ cap = 32 := by assumption
        rw [if_neg hcap] at hm4
        obtain ⟨v', q1, q2, q3⟩ := Rr_tail HR0.out.1 HR0.out.2.2 (v2 := .slice (some ⟨g, o + 32, none⟩) (l.length - 32) (cap - 32)) (s2 := s.map (List.drop 32)) (by rw [HGD.out]; have := hrl.tail_in 32 (by omega) hcap; simpa only [Option.map_some, add_mk] using this) (fun _ => rfl) hmw (by rw [HGD.out, HL.out]; simp) HNS.out
        refine ⟨v', ⟨q1.1.mod hm4 (by omega), q1.2.1.mod hm4 ?_, q1.2.2⟩, q2.trans (hm4.mono (S' := fun k => w.heap.size ≤ k) (fun k _ h => by omega)) (fun i hi h => by omega), q3⟩
        intro h0 g' hg' e
        have h5 := q3 h0
        rw [h5] at hg'
        simp [Value.ownBlock] at hg'
        omega

theorem RefRHash_any (r : Nat) (v : Value) (s : RSt) (w : World) (hR : Rr 75 w r v s) :
    Calls Try.prog 57 #[.pointer (some ⟨r, 0, none⟩)] w fun e w' => e = .returned (hv (rHash s).1) ∧ RrTo 75 w r v (rHash s).2 w' := by
  by_cases h : (s.getD []).length < 32
  · have hs : rHash s = (List.replicate 32 0, none) := by
      cases s with
      | none => rfl
      | some l => simp at h; simp [rHash, rTake, h]
    rw [hs]
    exact RefRHash_fails r v s w hR h
  · have hs : rHash s = ((s.getD []).take 32, s.map (List.drop 32)) := by
      cases s with
      | none => simp at h
      | some l => simp at h; simp [rHash, rTake, show ¬ l.length < 32 by omega]
    rw [hs]
    exact RefRHash_works r v s w hR (by omega)

section
variable {R : Nat → Prop} {r : Nat} {s : RSt} {w : World}
theorem RefRNum_R (hR : RrR 75 R w r s) : Calls Try.prog 53 #[.pointer (some ⟨r, 0, none⟩)] w fun e w' => e = .returned (.int .u64 ((rNum s).1 : Nat)) ∧ RrR 75 R w' r (rNum s).2 ∧ Mod R w w' := by
  obtain ⟨v, h1, h2, h3⟩ := hR
  exact (RefRNum_any r v s w h1).mono fun _ _ ⟨he, h⟩ => ⟨he, RrTo_R h2 h3 (rNum_len s) h⟩
theorem RefRInt_R {most : Int} (hR : RrR 75 R w r s) (hm : -9223372036854775808 ≤ most ∧ most ≤ 9223372036854775807) :
    Calls Try.prog 54 #[.pointer (some ⟨r, 0, none⟩), .int .i64 most] w fun e w' => e = .returned (.int .i64 ((rInt most s).1 : Nat)) ∧ RrR 75 R w' r (rInt most s).2 ∧ Mod R w w' := by
  obtain ⟨v, h1, h2, h3⟩ := hR
  exact (RefRInt_any r most v s w h1 hm).mono fun _ _ ⟨he, h⟩ => ⟨he, RrTo_R h2 h3 (rInt_len most s) h⟩
theorem rTake_bd2 (n : Nat) (s : RSt) : (rTake n s).1.length ≤ (s.getD []).length := by
  cases s with
  | none => simp
  | some l => simp only [rTake]; split <;> simp; omega
theorem RefRRow_R {most : Int} {N : Nat} (hR : RrR 75 R w r s) (hm : -9223372036854775808 ≤ most ∧ most ≤ 9223372036854775807) (hl : (s.getD []).length ≤ N) (hN : N ≤ 1000000) :
    Calls Try.prog 55 #[.pointer (some ⟨r, 0, none⟩), .int .i64 most] w fun e w' => ∃ v', e = .returned v' ∧ OwR (New w w') N w' v' (rRow most s).1 ∧ RrR 75 R w' r (rRow most s).2 ∧ Mod R w w' := by
  obtain ⟨v, h1, h2, h3⟩ := hR
  refine (RefRRow_any r most v s w h1 hm (by omega)).mono fun _ _ ⟨v', he, ho, hf, h⟩ => ⟨v', he, OwR_of _ ho hf ?_, RrTo_R h2 h3 (rRow_len most s) h⟩
  have := rTake_bd2 (rInt most s).1 (rInt most s).2
  have := rInt_len most s
  show (rTake _ _).1.length ≤ _
  omega
theorem RefRHash_R (hR : RrR 75 R w r s) : Calls Try.prog 57 #[.pointer (some ⟨r, 0, none⟩)] w fun e w' => e = .returned (hv (rHash s).1) ∧ RrR 75 R w' r (rHash s).2 ∧ Mod R w w' := by
  obtain ⟨v, h1, h2, h3⟩ := hR
  exact (RefRHash_any r v s w h1).mono fun _ _ ⟨he, h⟩ => ⟨he, RrTo_R h2 h3 (rHash_len s) h⟩
end
end Go.Proofs.Ytceojplopbjokaa
