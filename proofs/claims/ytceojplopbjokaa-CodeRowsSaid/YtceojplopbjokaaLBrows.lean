/- CodeRows: the walk. -/
import Derived.Test.YtceojplopbjokaaBrows
import Derived.IntWalk
set_option maxRecDepth 100000
set_option linter.unusedVariables false
namespace Go.Proofs.Ytceojplopbjokaa
open Go Go.RowKit Go.Gv

set_option maxHeartbeats 2000000 in
theorem CodeRows_walk (vl : Value) (l : List Row01) (most : Int) (hmost : -9223372036854775808 ≤ most ∧ most ≤ 9223372036854775807) (w : World) (hl : RdL (fun k => k < w.heap.size) w vl l) (hok : ∀ a ∈ l, a.Ok w) :
    Calls Try.prog 10 #[vl, .int .i64 most] w fun e w' => e = .returned (.bool true) ∧ Mod (fun _ => False) w w' := by
  obtain ⟨ao, cap, rfl, hlm⟩ := hl.shape
  rw [maxLen_val] at hlm
  have HL := Lib.hid hl
  have HLb := Lib.hid hl
  have HOK := Lib.hid hok
  have HMOST := Lib.hid hmost
  clear hl hok hmost
  go_enter Try.func10, Try.ntmps10
  go_wp2_with fail
  refine (NewWriter_R _).mono ?_
  rintro e w1 ⟨b, rfl, qwr, hm⟩
  have z1 := hm.size
  have H1 := Lib.hid (qwr.widen (R' := (fun k => (w.heap.size ≤ k ∧ k < w1.heap.size))) (by intro k h; unfold New at h; (try dsimp only at h); (try dsimp only); omega) (Nat.le_refl _))
  have H2 := Lib.hid (HL.out.mod hm (fun _ _ h => h))
  have HM3 := Lib.hid ((Mod.refl (fun _ => False) w).trans hm (fun _ _ h => h))
  clear hm qwr HL
  go_wp2
  go_loopw [6, 7] (fun t6 t7 wr => ∃ (R1 R2 R3 : Nat → Prop) (rs : List (Value × List Int)) (bs : List Int), t7 = .int .i64 rs.length ∧ rs.length ≤ 8 ∧ rs.length ≤ l.length ∧ bs = rowsB rs ∧ WrR R1 (210 * rs.length) wr b bs ∧ OwV 32 R2 rs.length wr t6 (rs.map (·.1)) ∧ RdF R3 wr rs ∧ (∀ k, R1 k → R2 k → False) ∧ (∀ k, R1 k → R3 k → False) ∧ (∀ k, R2 k → R3 k → False) ∧ (∀ k, R1 k → w.heap.size ≤ k ∧ k < wr.heap.size) ∧ (∀ k, R2 k → w.heap.size ≤ k ∧ k < wr.heap.size) ∧ (∀ k, R3 k → w.heap.size ≤ k ∧ k < wr.heap.size) ∧ Mod (fun _ => False) w wr) (fun _ t7 _ => l.length - (intOf t7).toNat)
  case atStart => exact ⟨_, (fun _ => False), (fun _ => False), [], [], rfl, by simp, by simp, rfl, H1.out, OwV.nil _ _ _, (by intro p hp; cases hp), (fun _ _ h => h), (fun _ _ h => h), (fun _ _ h => h), (by intro k h; (try dsimp only at h); omega), (by intro k h; exact h.elim), (by intro k h; exact h.elim), HM3.out⟩
  case round =>
    obtain ⟨wo, rfl⟩ : ∃ x, x = wr := ⟨_, rfl⟩
    obtain ⟨R1, R2, R3, rs, bs, rfl, hi8, hil, hbs, hW, hO, hF, hd12, hd13, hd23, hb1, hb2, hb3, hm⟩ := hrel
    obtain ⟨ao2, cap2, rfl⟩ := hO.shape
    rw [List.length_map] at hO
    have KW := Lib.hid hW
    have KO := Lib.hid hO
    have KF := Lib.hid hF
    have Kd12 := Lib.hid hd12
    have Kd13 := Lib.hid hd13
    have Kd23 := Lib.hid hd23
    have Kb1 := Lib.hid hb1
    have Kb2 := Lib.hid hb2
    have Kb3 := Lib.hid hb3
    have Kbs := Lib.hid hbs
    have HL0 := Lib.hid (HLb.out.mod hm (fun _ _ h => h))
    have KM := Lib.hid hm
    have zr0 := hm.size
    clear hW hO hF hd12 hd13 hd23 hb1 hb2 hb3 hbs hm
    rw [List.length_map]
    by_cases hc1 : rs.length < l.length
    by_cases hc2 : rs.length < 8
    · obtain ⟨gl, ol, rfl, hel⟩ := HL0.out.at hc1
      have hak := HOK.out l[rs.length] (List.getElem_mem hc1)
      generalize l[rs.length] = a at *
      have hcell : wo.cell? ⟨gl, ol + rs.length, none⟩ = some a.V := by simpa using hel 0 _ rfl
      have HAK := Lib.hid hak
      clear hak hel
      go_wp2_with fail
      refine (Cut_R 200 (HAK.out.mod KM.out (fun _ _ h => h)) (by omega)).mono ?_
      rintro e raw2 ⟨v1, rfl, qcut, hm⟩
      have zra2 := hm.size
      have Hra1 := Lib.hid (qcut.widen (R' := (fun k => (wo.heap.size ≤ k ∧ k < raw2.heap.size))) (by intro k h; unfold New at h; (try dsimp only at h); (try dsimp only); omega) (Nat.le_refl _))
      have Hra2 := Lib.hid (KW.out.mod hm (fun _ _ h => h))
      have Hra3 := Lib.hid (KO.out.mod hm (fun _ _ h => h))
      have Hra4 := Lib.hid (KF.out.mod hm (fun _ _ h => h))
      have Hra5 := Lib.hid (HL0.out.mod hm (fun _ _ h => h))
      have HMra6 := Lib.hid (KM.out.trans hm (fun _ _ h => h))
      clear hm qcut KW KO KF HL0 KM
      clear hcell
      generalize List.take 200 a.B = cb at *
      obtain ⟨ac, cc, rfl⟩ := Hra1.out.shape
      go_wp2_with (at_builtin; go_must (refine wpList_appV1 rfl (.tmp 25) (.tmp 31) 71 32 (.slice none 0 0) 24 rfl Try.underlying71 (by kernel_rfl) rfl rfl rfl Hra3.out rfl rfl (by omega) (by omega) ?_))
      intro ao3 cap3 raw3 qat hm
      have zra3 := hm.size
      have Hra7 := Lib.hid (qat.widen (R' := (fun k => R2 k ∨ ((raw2.heap.size ≤ k ∧ k < raw3.heap.size)))) (by intro k h; unfold New at h; (try dsimp only at h); (try dsimp only); first | (rcases h with h | h <;> first | exact Or.inl h | (rcases h with h | h <;> first | exact Or.inl h | (right; omega)) | (right; omega)) | omega) (Nat.le_refl _))
      have Hra8 := Lib.hid (Hra2.out.mod hm (by intro k h1 h2; (try dsimp only at h1 h2); first | exact Kd12.out k h1 h2 | exact Kd12.out k h2 h1 | exact Kd13.out k h1 h2 | exact Kd13.out k h2 h1 | exact Kd23.out k h1 h2 | exact Kd23.out k h2 h1 | (have hb1 := Kb2.out k h1; omega) | (have hb1 := Kb2.out k h2; omega) | (have hb1 := Kb1.out k h1; omega) | (have hb1 := Kb1.out k h2; omega) | (have hb1 := Kb1.out k h1; have hb2 := Kb2.out k h2; omega) | omega))
      have Hra9 := Lib.hid (Hra4.out.mod hm (by intro k h1 h2; (try dsimp only at h1 h2); first | exact Kd12.out k h1 h2 | exact Kd12.out k h2 h1 | exact Kd13.out k h1 h2 | exact Kd13.out k h2 h1 | exact Kd23.out k h1 h2 | exact Kd23.out k h2 h1 | (have hb1 := Kb3.out k h1; omega) | (have hb1 := Kb3.out k h2; omega) | (have hb1 := Kb2.out k h1; omega) | (have hb1 := Kb2.out k h2; omega) | (have hb1 := Kb3.out k h1; have hb2 := Kb2.out k h2; omega) | omega))
      have Hra10 := Lib.hid (Hra5.out.mod hm (by intro k h1 h2; (try dsimp only at h1 h2); first | exact Kd12.out k h1 h2 | exact Kd12.out k h2 h1 | exact Kd13.out k h1 h2 | exact Kd13.out k h2 h1 | exact Kd23.out k h1 h2 | exact Kd23.out k h2 h1 | (have hb1 := Kb2.out k h1; omega) | (have hb1 := Kb2.out k h2; omega) | omega))
      have Hra11 := Lib.hid (Hra1.out.mod hm (by intro k h1 h2; (try dsimp only at h1 h2); first | exact Kd12.out k h1 h2 | exact Kd12.out k h2 h1 | exact Kd13.out k h1 h2 | exact Kd13.out k h2 h1 | exact Kd23.out k h1 h2 | exact Kd23.out k h2 h1 | (have hb1 := Kb2.out k h1; omega) | (have hb1 := Kb2.out k h2; omega) | omega))
      have HMra12 := Lib.hid (HMra6.out.trans hm (by intro k h1 h2; (try dsimp only at h2); first | (have hb1 := Kb2.out k h2; omega) | omega))
      clear hm qat Hra3 Hra2 Hra4 Hra5 Hra1 HMra6
      obtain ⟨ga, hga, hac⟩ := Hra7.out.at (i := rs.length) (by simp)
      subst hga
      have hcell2 := hac rs.length (.slice ac cb.length cc) (by simp)
      clear hac
      go_wp2_with fail
      refine (WRow_R Hra8.out Hra11.out.rd (by intro k h1 h2; (try dsimp only at h1 h2); first | exact Kd12.out k h1 h2 | exact Kd12.out k h2 h1 | exact Kd13.out k h1 h2 | exact Kd13.out k h2 h1 | exact Kd23.out k h1 h2 | exact Kd23.out k h2 h1 | (have hb1 := Kb1.out k h1; omega) | (have hb1 := Kb1.out k h2; omega) | omega) (by omega)).mono ?_
      rintro e raw4 ⟨rfl, qwr, hm⟩
      have zra4 := hm.size
      have Hra13 := Lib.hid (qwr.widen (R' := (fun k => R1 k ∨ ((raw3.heap.size ≤ k ∧ k < raw4.heap.size)))) (by intro k h; unfold New at h; (try dsimp only at h); (try dsimp only); first | (rcases h with h | h <;> first | exact Or.inl h | (rcases h with h | h <;> first | exact Or.inl h | (right; omega)) | (right; omega)) | omega) (Nat.le_refl _))
      have Hra14 := Lib.hid (Hra7.out.mod hm (by intro k h1 h2; (try dsimp only at h1 h2); rcases h1 with h1 | h1 <;> first | exact Kd12.out k h1 h2 | exact Kd12.out k h2 h1 | exact Kd13.out k h1 h2 | exact Kd13.out k h2 h1 | exact Kd23.out k h1 h2 | exact Kd23.out k h2 h1 | (have hb1 := Kb2.out k h1; omega) | (have hb1 := Kb2.out k h2; omega) | (have hb1 := Kb1.out k h1; omega) | (have hb1 := Kb1.out k h2; omega) | (have hb1 := Kb2.out k h1; have hb2 := Kb1.out k h2; omega) | omega))
      have Hra15 := Lib.hid (Hra9.out.mod hm (by intro k h1 h2; (try dsimp only at h1 h2); first | exact Kd12.out k h1 h2 | exact Kd12.out k h2 h1 | exact Kd13.out k h1 h2 | exact Kd13.out k h2 h1 | exact Kd23.out k h1 h2 | exact Kd23.out k h2 h1 | (have hb1 := Kb3.out k h1; omega) | (have hb1 := Kb3.out k h2; omega) | (have hb1 := Kb1.out k h1; omega) | (have hb1 := Kb1.out k h2; omega) | (have hb1 := Kb3.out k h1; have hb2 := Kb1.out k h2; omega) | omega))
      have Hra16 := Lib.hid (Hra10.out.mod hm (by intro k h1 h2; (try dsimp only at h1 h2); first | exact Kd12.out k h1 h2 | exact Kd12.out k h2 h1 | exact Kd13.out k h1 h2 | exact Kd13.out k h2 h1 | exact Kd23.out k h1 h2 | exact Kd23.out k h2 h1 | (have hb1 := Kb1.out k h1; omega) | (have hb1 := Kb1.out k h2; omega) | omega))
      have Hra17 := Lib.hid (Hra11.out.mod hm (by intro k h1 h2; (try dsimp only at h1 h2); first | exact Kd12.out k h1 h2 | exact Kd12.out k h2 h1 | exact Kd13.out k h1 h2 | exact Kd13.out k h2 h1 | exact Kd23.out k h1 h2 | exact Kd23.out k h2 h1 | (have hb1 := Kb1.out k h1; omega) | (have hb1 := Kb1.out k h2; omega) | omega))
      have HMra18 := Lib.hid (HMra12.out.trans hm (by intro k h1 h2; (try dsimp only at h2); first | (have hb1 := Kb1.out k h2; omega) | omega))
      clear hm qwr Hra8 Hra7 Hra9 Hra10 Hra11 HMra12
      clear hcell2
      have HF := Lib.hid ((Hra15.out.widen (R' := (fun k => R3 k ∨ ((wo.heap.size ≤ k ∧ k < raw2.heap.size)))) (fun k h => Or.inl h)).snoc (Hra17.out.rd.widen (R' := (fun k => R3 k ∨ ((wo.heap.size ≤ k ∧ k < raw2.heap.size)))) (fun k h => Or.inr h) (Nat.le_refl _)))
      go_wp2
      go_roundw
      case rel => exact ⟨(fun k => R1 k ∨ ((raw3.heap.size ≤ k ∧ k < raw4.heap.size))), (fun k => R2 k ∨ ((raw2.heap.size ≤ k ∧ k < raw3.heap.size))), (fun k => R3 k ∨ ((wo.heap.size ≤ k ∧ k < raw2.heap.size))), rs ++ [(.slice ac cb.length cc, cb)], bs ++ (encN cb.length ++ cb), by simp, by simp; omega, by simp; omega, by rw [Kbs.out]; simp [rowsB], Hra13.out.widen (fun _ h => h) (by simp; omega), by have := Hra14.out; simpa using this, HF.out, (by intro k h1 h2; (try dsimp only at h1 h2); rcases h1 with h1 | h1 <;> rcases h2 with h2 | h2 <;> first | exact Kd12.out k h1 h2 | exact Kd12.out k h2 h1 | exact Kd13.out k h1 h2 | exact Kd13.out k h2 h1 | exact Kd23.out k h1 h2 | exact Kd23.out k h2 h1 | (have hb1 := Kb2.out k h1; omega) | (have hb1 := Kb2.out k h2; omega) | (have hb1 := Kb1.out k h1; omega) | (have hb1 := Kb1.out k h2; omega) | (have hb1 := Kb1.out k h1; have hb2 := Kb2.out k h2; omega) | omega), (by intro k h1 h2; (try dsimp only at h1 h2); rcases h1 with h1 | h1 <;> rcases h2 with h2 | h2 <;> first | exact Kd12.out k h1 h2 | exact Kd12.out k h2 h1 | exact Kd13.out k h1 h2 | exact Kd13.out k h2 h1 | exact Kd23.out k h1 h2 | exact Kd23.out k h2 h1 | (have hb1 := Kb3.out k h1; omega) | (have hb1 := Kb3.out k h2; omega) | (have hb1 := Kb1.out k h1; omega) | (have hb1 := Kb1.out k h2; omega) | (have hb1 := Kb1.out k h1; have hb2 := Kb3.out k h2; omega) | omega), (by intro k h1 h2; (try dsimp only at h1 h2); rcases h1 with h1 | h1 <;> rcases h2 with h2 | h2 <;> first | exact Kd12.out k h1 h2 | exact Kd12.out k h2 h1 | exact Kd13.out k h1 h2 | exact Kd13.out k h2 h1 | exact Kd23.out k h1 h2 | exact Kd23.out k h2 h1 | (have hb1 := Kb3.out k h1; omega) | (have hb1 := Kb3.out k h2; omega) | (have hb1 := Kb2.out k h1; omega) | (have hb1 := Kb2.out k h2; omega) | (have hb1 := Kb2.out k h1; have hb2 := Kb3.out k h2; omega) | omega), (by intro k h; (try dsimp only at h); rcases h with h | h <;> first | (have hb1 := Kb1.out k h; omega) | omega), (by intro k h; (try dsimp only at h); rcases h with h | h <;> first | (have hb1 := Kb2.out k h; omega) | omega), (by intro k h; (try dsimp only at h); rcases h with h | h <;> first | (have hb1 := Kb3.out k h; omega) | omega), HMra18.out⟩
      case measure => simp [intOf]; omega
    all_goals
      go_wp2_with fail
      (try clear hc2); (try clear hc1)
      refine (WBytes_R KW.out (by omega)).mono ?_
      rintro e rxw2 ⟨v1, rfl, qby, hm⟩
      have zrx2 := hm.size
      have Hrx1 := Lib.hid (qby.widen (R' := (fun k => (wo.heap.size ≤ k ∧ k < rxw2.heap.size))) (by intro k h; unfold New at h; (try dsimp only at h); (try dsimp only); omega) (Nat.le_refl _))
      have Hrx2 := Lib.hid (KW.out.mod hm (fun _ _ h => h))
      have Hrx3 := Lib.hid (KO.out.mod hm (fun _ _ h => h))
      have Hrx4 := Lib.hid (KF.out.mod hm (fun _ _ h => h))
      have HMrx5 := Lib.hid (KM.out.trans hm (fun _ _ h => h))
      clear hm qby KW KO KF KM
      rw [Kbs.out] at Hrx1
      go_wp2_with fail
      refine (NewReader_R Hrx1.out.rd (by omega)).mono ?_
      rintro e rxw3 ⟨rp, rfl, qr_, hm⟩
      have zrx3 := hm.size
      have Hrx6 := Lib.hid (qr_.widen (R' := (fun k => (rxw2.heap.size ≤ k ∧ k < rxw3.heap.size))) (by intro k h; unfold New at h; (try dsimp only at h); (try dsimp only); omega))
      have Hrx7 := Lib.hid (Hrx3.out.mod hm (fun _ _ h => h))
      have Hrx8 := Lib.hid (Hrx4.out.mod hm (fun _ _ h => h))
      have Hrx9 := Lib.hid (Hrx1.out.mod hm (fun _ _ h => h))
      have HMrx10 := Lib.hid (HMrx5.out.trans hm (fun _ _ h => h))
      clear hm qr_ Hrx3 Hrx4 Hrx1 HMrx5
      obtain ⟨mo, hmo, hmo2⟩ := within_nat most 220 (by omega)
      have HMO := Lib.hid (Within_any most 220 (by omega) (by omega) HMOST.out)
      rw [hmo] at HMO
      clear hmo
      go_wp2_with fail
      refine (HMO.out _).mono ?_
      rintro e wx ⟨rfl, rfl⟩
      go_wp2
      go_loopw [9, 48] (fun t9 t48 wi => ∃ (j : Nat) (fl : Bool) (st : RSt), t9 = .bool fl ∧ t48 = .int .i64 j ∧ j ≤ rs.length ∧ st = (if fl then none else some (rowsB (rs.drop j))) ∧ RrR 87 (fun k => (rxw2.heap.size ≤ k ∧ k < rxw3.heap.size)) wi rp st ∧ Mod (fun k => (rxw2.heap.size ≤ k ∧ k < rxw3.heap.size)) rxw3 wi) (fun _ t48 _ => rs.length - (intOf t48).toNat)
      case atStart => exact ⟨0, false, _, rfl, rfl, by omega, rfl, Hrx6.out, Mod.refl _ _⟩
      case round =>
        obtain ⟨wi, rfl⟩ : ∃ x, x = wr := ⟨_, rfl⟩
        obtain ⟨j, fl, st, rfl, rfl, hjl, hst, hR, hm⟩ := hrel
        have KR := Lib.hid hR
        have KI := Lib.hid hm
        have KST := Lib.hid hst
        clear hR hst
        have z_wi := hm.size
        have Hrxn11 := Lib.hid (Hrx7.out.mod hm (by intro k h1 h2; (try dsimp only at h1 h2); first | exact Kd12.out k h1 h2 | exact Kd12.out k h2 h1 | exact Kd13.out k h1 h2 | exact Kd13.out k h2 h1 | exact Kd23.out k h1 h2 | exact Kd23.out k h2 h1 | (have hb1 := Kb2.out k h1; omega) | (have hb1 := Kb2.out k h2; omega) | omega))
        have Hrxn12 := Lib.hid (Hrx8.out.mod hm (by intro k h1 h2; (try dsimp only at h1 h2); first | exact Kd12.out k h1 h2 | exact Kd12.out k h2 h1 | exact Kd13.out k h1 h2 | exact Kd13.out k h2 h1 | exact Kd23.out k h1 h2 | exact Kd23.out k h2 h1 | (have hb1 := Kb3.out k h1; omega) | (have hb1 := Kb3.out k h2; omega) | omega))
        have HMrxn13 := Lib.hid (HMrx10.out.trans hm (by intro k h1 h2; (try dsimp only at h2); omega))
        clear hm
        by_cases hcj : j < rs.length
        · obtain ⟨ga, hga, -⟩ := Hrxn11.out.at (i := j) (by simpa using hcj)
          subst hga
          have hrj := Hrxn12.out rs[j] (List.getElem_mem hcj)
          have hget : (rs.map (·.1))[j]? = some rs[j].1 := by simp [List.getElem?_eq_getElem hcj]
          have hrow : rowsB (rs.drop j) = encN rs[j].2.length ++ rs[j].2 ++ rowsB (rs.drop (j + 1)) := by unfold rowsB; rw [List.drop_eq_getElem_cons hcj, List.flatMap_cons]
          have HROW := Lib.hid hrow
          clear hrow
          obtain ⟨q, hq⟩ : ∃ q, q = rs[j] := ⟨_, rfl⟩
          rw [← hq] at hrj hget HROW
          clear hq
          obtain ⟨vj, bj⟩ := q
          dsimp only at hrj hget HROW
          obtain ⟨aj, cj, rfl⟩ := hrj.shape
          have hb200 := hrj.2.2
          have HRJ := Lib.hid hrj
          have HGET := Lib.hid hget
          clear hrj hget
          cases fl
          by_cases hlen : (mo : Int) < bj.length
          · have HQ := KR.out
            rw [KST.out] at HQ
            rw [if_neg (by simp), HROW.out] at HQ
            have K := RRow_R (most := (mo : Int)) HQ (by omega)
            rw [rRow_encA (by unfold U64; omega), if_pos hlen] at K
            have HK := Lib.hid K
            clear K HQ
            go_wp2_with fail
            refine (HK.out).mono ?_
            rintro e rxnaxw5 ⟨v6, rfl, qrw, qr_, hm⟩
            have zrxnax5 := hm.size
            have Hrxnax14 := Lib.hid (qrw.widen (R' := (fun k => (wi.heap.size ≤ k ∧ k < rxnaxw5.heap.size))) (by intro k h; unfold New at h; (try dsimp only at h); (try dsimp only); omega) (Nat.le_refl _))
            have Hrxnax15 := Lib.hid qr_
            have Hrxnax16 := Lib.hid (Hrxn11.out.mod hm (by intro k h1 h2; (try dsimp only at h1 h2); first | exact Kd12.out k h1 h2 | exact Kd12.out k h2 h1 | exact Kd13.out k h1 h2 | exact Kd13.out k h2 h1 | exact Kd23.out k h1 h2 | exact Kd23.out k h2 h1 | (have hb1 := Kb2.out k h1; omega) | (have hb1 := Kb2.out k h2; omega) | omega))
            have Hrxnax17 := Lib.hid (HRJ.out.mod hm (by intro k h1 h2; (try dsimp only at h1 h2); first | exact Kd12.out k h1 h2 | exact Kd12.out k h2 h1 | exact Kd13.out k h1 h2 | exact Kd13.out k h2 h1 | exact Kd23.out k h1 h2 | exact Kd23.out k h2 h1 | (have hb1 := Kb3.out k h1; omega) | (have hb1 := Kb3.out k h2; omega) | omega))
            have HMrxnax18 := Lib.hid (HMrxn13.out.trans hm (by intro k h1 h2; (try dsimp only at h2); omega))
            have HTrxnax19 := Lib.hid (KI.out.trans hm (by intro k h1 h2; (try dsimp only at h2); (try dsimp only); omega))
            clear hm qrw qr_ KR Hrxn11 HRJ HMrxn13 KI
            obtain ⟨ax, cx, rfl⟩ := Hrxnax14.out.shape
            have hcell := Hrxnax16.out.cell j _ HGET.out
            go_wp2
            go_roundw
            case rel => exact ⟨j + 1, true, _, rfl, by go_num, by omega, rfl, Hrxnax15.out, HTrxnax19.out⟩
            case measure => simp [intOf]; omega
          · have HQ := KR.out
            rw [KST.out] at HQ
            rw [if_neg (by simp), HROW.out] at HQ
            have K := RRow_R (most := (mo : Int)) HQ (by omega)
            rw [rRow_encA (by unfold U64; omega), if_neg hlen] at K
            have HK := Lib.hid K
            clear K HQ
            go_wp2_with fail
            refine (HK.out).mono ?_
            rintro e rxnayw5 ⟨v6, rfl, qrw, qr_, hm⟩
            have zrxnay5 := hm.size
            have Hrxnay14 := Lib.hid (qrw.widen (R' := (fun k => (wi.heap.size ≤ k ∧ k < rxnayw5.heap.size))) (by intro k h; unfold New at h; (try dsimp only at h); (try dsimp only); omega) (Nat.le_refl _))
            have Hrxnay15 := Lib.hid qr_
            have Hrxnay16 := Lib.hid (Hrxn11.out.mod hm (by intro k h1 h2; (try dsimp only at h1 h2); first | exact Kd12.out k h1 h2 | exact Kd12.out k h2 h1 | exact Kd13.out k h1 h2 | exact Kd13.out k h2 h1 | exact Kd23.out k h1 h2 | exact Kd23.out k h2 h1 | (have hb1 := Kb2.out k h1; omega) | (have hb1 := Kb2.out k h2; omega) | omega))
            have Hrxnay17 := Lib.hid (HRJ.out.mod hm (by intro k h1 h2; (try dsimp only at h1 h2); first | exact Kd12.out k h1 h2 | exact Kd12.out k h2 h1 | exact Kd13.out k h1 h2 | exact Kd13.out k h2 h1 | exact Kd23.out k h1 h2 | exact Kd23.out k h2 h1 | (have hb1 := Kb3.out k h1; omega) | (have hb1 := Kb3.out k h2; omega) | omega))
            have HMrxnay18 := Lib.hid (HMrxn13.out.trans hm (by intro k h1 h2; (try dsimp only at h2); omega))
            have HTrxnay19 := Lib.hid (KI.out.trans hm (by intro k h1 h2; (try dsimp only at h2); (try dsimp only); omega))
            clear hm qrw qr_ KR Hrxn11 HRJ HMrxn13 KI
            obtain ⟨ax, cx, rfl⟩ := Hrxnay14.out.shape
            have hcell := Hrxnay16.out.cell j _ HGET.out
            have HS := Lib.hid (Same_R Hrxnay14.out.rd Hrxnay17.out)
            rw [decide_eq_true rfl] at HS
            go_wp2_with fail
            refine (HS.out).mono ?_
            rintro e rxnayw6 ⟨rfl, hm⟩
            have zrxnay6 := hm.size
            have Hrxnay20 := Lib.hid (Hrxnay16.out.mod hm (fun _ _ h => h))
            have Hrxnay21 := Lib.hid (Hrxnay15.out.mod hm (fun _ _ h => h))
            have Hrxnay22 := Lib.hid (Hrxnay17.out.mod hm (fun _ _ h => h))
            have Hrxnay23 := Lib.hid (Hrxnay14.out.mod hm (fun _ _ h => h))
            have HMrxnay24 := Lib.hid (HMrxnay18.out.trans hm (fun _ _ h => h))
            have HTrxnay25 := Lib.hid (HTrxnay19.out.trans hm (fun _ _ h => h.elim))
            clear hm Hrxnay16 Hrxnay15 Hrxnay17 Hrxnay14 HMrxnay18 HTrxnay19
            go_wp2
            go_roundw
            case rel => exact ⟨j + 1, false, _, rfl, by go_num, by omega, rfl, Hrxnay21.out, HTrxnay25.out⟩
            case measure => simp [intOf]; omega
          · have HQ := KR.out
            rw [KST.out] at HQ
            rw [if_pos rfl] at HQ
            have K := RRow_R (most := (mo : Int)) HQ (by omega)
            rw [rRow_none] at K
            have HK := Lib.hid K
            clear K HQ
            go_wp2_with fail
            refine (HK.out).mono ?_
            rintro e rxnazw5 ⟨v6, rfl, qrw, qr_, hm⟩
            have zrxnaz5 := hm.size
            have Hrxnaz14 := Lib.hid (qrw.widen (R' := (fun k => (wi.heap.size ≤ k ∧ k < rxnazw5.heap.size))) (by intro k h; unfold New at h; (try dsimp only at h); (try dsimp only); omega) (Nat.le_refl _))
            have Hrxnaz15 := Lib.hid qr_
            have Hrxnaz16 := Lib.hid (Hrxn11.out.mod hm (by intro k h1 h2; (try dsimp only at h1 h2); first | exact Kd12.out k h1 h2 | exact Kd12.out k h2 h1 | exact Kd13.out k h1 h2 | exact Kd13.out k h2 h1 | exact Kd23.out k h1 h2 | exact Kd23.out k h2 h1 | (have hb1 := Kb2.out k h1; omega) | (have hb1 := Kb2.out k h2; omega) | omega))
            have Hrxnaz17 := Lib.hid (HRJ.out.mod hm (by intro k h1 h2; (try dsimp only at h1 h2); first | exact Kd12.out k h1 h2 | exact Kd12.out k h2 h1 | exact Kd13.out k h1 h2 | exact Kd13.out k h2 h1 | exact Kd23.out k h1 h2 | exact Kd23.out k h2 h1 | (have hb1 := Kb3.out k h1; omega) | (have hb1 := Kb3.out k h2; omega) | omega))
            have HMrxnaz18 := Lib.hid (HMrxn13.out.trans hm (by intro k h1 h2; (try dsimp only at h2); omega))
            have HTrxnaz19 := Lib.hid (KI.out.trans hm (by intro k h1 h2; (try dsimp only at h2); (try dsimp only); omega))
            clear hm qrw qr_ KR Hrxn11 HRJ HMrxn13 KI
            obtain ⟨ax, cx, rfl⟩ := Hrxnaz14.out.shape
            have hcell := Hrxnaz16.out.cell j _ HGET.out
            go_wp2
            go_roundw
            case rel => exact ⟨j + 1, true, _, rfl, by go_num, by omega, rfl, Hrxnaz15.out, HTrxnaz19.out⟩
            case measure => simp [intOf]; omega
        · have HQ := KR.out
          rw [KST.out, List.drop_of_length_le (by omega)] at HQ
          have HQ2 := Lib.hid HQ
          clear HQ KR
          cases fl
          · have HQ3 := HQ2.out
            rw [if_neg (by simp)] at HQ3
            have HQ4 := Lib.hid HQ3
            clear HQ3
            go_wp2_with fail
            refine (OK_R HQ4.out).mono ?_
            rintro e wx ⟨rfl, rfl⟩
            go_wp2_with fail
            refine (Left_R HQ4.out).mono ?_
            rintro e wx ⟨rfl, rfl⟩
            go_wp2_with fail
            refine (wakes_R _).mono ?_
            rintro e rxnquw5 ⟨rfl, hm⟩
            have zrxnqu5 := hm.size
            have HMrxnqu14 := Lib.hid (HMrxn13.out.trans hm (fun _ _ h => h))
            have HTrxnqu15 := Lib.hid (KI.out.trans hm (fun _ _ h => h.elim))
            clear hm HMrxn13 KI
            go_wp2
            go_ret
            exact ⟨rfl, HMrxnqu14.out⟩
          · have HQ3 := HQ2.out
            rw [if_pos rfl] at HQ3
            have HQ4 := Lib.hid HQ3
            clear HQ3
            go_wp2_with fail
            refine (OK_R HQ4.out).mono ?_
            rintro e wx ⟨rfl, rfl⟩
            go_wp2_with fail
            refine (Left_R HQ4.out).mono ?_
            rintro e wx ⟨rfl, rfl⟩
            go_wp2_with fail
            refine (wakes_R _).mono ?_
            rintro e rxnqvw5 ⟨rfl, hm⟩
            have zrxnqv5 := hm.size
            have HMrxnqv14 := Lib.hid (HMrxn13.out.trans hm (fun _ _ h => h))
            have HTrxnqv15 := Lib.hid (KI.out.trans hm (fun _ _ h => h.elim))
            clear hm HMrxn13 KI
            go_wp2
            go_ret
            exact ⟨rfl, HMrxnqv14.out⟩
end Go.Proofs.Ytceojplopbjokaa
