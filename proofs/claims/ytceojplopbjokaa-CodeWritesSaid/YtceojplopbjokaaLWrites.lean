/- CodeWrites: the walk. -/
import Derived.Test.YtceojplopbjokaaLoc
set_option maxRecDepth 100000
set_option linter.unusedVariables false
namespace Go.Proofs.Ytceojplopbjokaa
open Go Go.RowKit Go.Gv

set_option maxHeartbeats 2000000 in
theorem CodeWrites_walk (vl : Value) (l : List Act01) (w : World) (hl : RdA (fun k => k < w.heap.size) w vl l) (hok : ∀ a ∈ l, a.Ok w) :
    Calls Try.prog 5 #[vl] w fun e w' => e = .returned (.bool true) ∧ Mod (fun _ => False) w w' := by
  have hneq := wr_neq
  obtain ⟨ao, cap, rfl, hlm⟩ := hl.shape
  rw [maxLen_val] at hlm
  have HL := Lib.hid hl
  have HLb := Lib.hid hl
  have HOK := Lib.hid hok
  clear hl hok
  go_enter Try.func5, Try.ntmps5
  go_wp2_with fail
  refine (NewWriter_R _).mono ?_
  rintro e w1 ⟨b, rfl, qwr, hm⟩
  have z1 := hm.size
  have H1 := Lib.hid (qwr.widen (R' := (fun k => (w.heap.size ≤ k ∧ k < w1.heap.size))) (by intro k h; unfold New at h; (try dsimp only at h); (try dsimp only); omega) (Nat.le_refl _))
  have H2 := Lib.hid (HL.out.mod hm (fun _ _ h => h))
  have HM3 := Lib.hid ((Mod.refl (fun _ => False) w).trans hm (fun _ _ h => h))
  clear hm qwr HL
  go_wp2
  go_loopw [4, 5] (fun t4 t5 wr => ∃ (i : Nat) (R1 R2 : Nat → Prop) (bs : List Int), t5 = .int .i64 i ∧ i ≤ 20 ∧ i ≤ l.length ∧ WrR R1 (120 * i) wr b bs ∧ OwR R2 (120 * i) wr t4 bs ∧ (∀ k, R1 k → R2 k → False) ∧ (∀ k, R1 k → w.heap.size ≤ k ∧ k < wr.heap.size) ∧ (∀ k, R2 k → w.heap.size ≤ k ∧ k < wr.heap.size) ∧ Mod (fun _ => False) w wr) (fun _ t5 _ => l.length - (intOf t5).toNat)
  case atStart => exact ⟨0, _, (fun _ => False), [], rfl, by omega, by omega, H1.out, ⟨OwnB.nil _, (fun g hg => by cases hg), Nat.le_refl _⟩, (fun _ _ h => h), (by intro k h; (try dsimp only at h); omega), (by intro k h; exact h.elim), HM3.out⟩
  case round =>
    obtain ⟨i, R1, R2, bs, rfl, hi20, hil, hW, hO, hd, hb1, hb2, hm⟩ := hrel
    obtain ⟨ao2, cap2, rfl⟩ := hO.shape
    have KW := Lib.hid hW
    have KO := Lib.hid hO
    have Kd := Lib.hid hd
    have Kb1 := Lib.hid hb1
    have Kb2 := Lib.hid hb2
    have HL0 := Lib.hid (HLb.out.mod hm (fun _ _ h => h))
    have KM := Lib.hid hm
    have zr0 := hm.size
    clear hW hO hd hb1 hb2 hm
    by_cases hc1 : i < l.length
    by_cases hc2 : i < 20
    · obtain ⟨gl, ol, rfl, hel⟩ := HL0.out.at hc1
      have hak := HOK.out l[i] (List.getElem_mem hc1)
      generalize l[i] = a at *
      have HEL := Lib.hid hel
      have HAK := Lib.hid hak
      have HONE := Lib.hid (Act01.one hak)
      clear hel hak
      go_wp2_with (first
        | ((with_reducible show wpList _ _ _ (Oper.mk (some 27) _ _ _ _ _ :: _) _ _); go_must (refine wpList_loadA rfl 41 (.tmp 26) rfl Try.underlying41 rfl (size_act _) rfl HEL.out ?_))
        | ((with_reducible show wpList _ _ _ (Oper.mk none (Op.store 41 (.tmp 6) (.tmp 27)) _ _ _ _ :: _) _ _); go_must (refine wpList_storeA rfl 41 (.tmp 6) (.tmp 27) rfl (Cs.new _ _ _) (vs := a.cells) (size_act _) HONE.out (by rw [a.len]; decide) rfl rfl ?_)))
      intro raw2 hcs hm1
      rw [lay_whole _ _ (by rw [a.len]; rfl)] at hcs
      have hm : Mod (fun _ => False) wr raw2 := ((Mod.refl (fun _ => False) _).alloc _).trans hm1 (by intro k h1 h2; omega)
      have zra2 := hm.size
      have Hra1 := Lib.hid (show LocA (fun k => (wr.heap.size ≤ k ∧ k < raw2.heap.size)) raw2 wr.heap.size a from ⟨hcs, Nat.le_refl _, hcs.lt⟩)
      have Hra2 := Lib.hid (KW.out.mod hm (fun _ _ h => h))
      have Hra3 := Lib.hid (KO.out.mod hm (fun _ _ h => h))
      have Hra4 := Lib.hid (HL0.out.mod hm (fun _ _ h => h))
      have HMra5 := Lib.hid (KM.out.trans hm (fun _ _ h => h))
      clear hcs hm1 hm
      have hc3 := Hra1.out.c3
      go_wp2_with fail
      refine (Cut_R 100 (HAK.out.b.mod HMra5.out (fun _ _ h => h)) (by omega)).mono ?_
      rintro e raw3 ⟨v1, rfl, qcut, hm⟩
      have zra3 := hm.size
      have Hra6 := Lib.hid (qcut.widen (R' := (fun k => (raw2.heap.size ≤ k ∧ k < raw3.heap.size))) (by intro k h; unfold New at h; (try dsimp only at h); (try dsimp only); omega) (Nat.le_refl _))
      have Hra7 := Lib.hid (Hra2.out.mod hm (fun _ _ h => h))
      have Hra8 := Lib.hid (Hra3.out.mod hm (fun _ _ h => h))
      have Hra9 := Lib.hid (Hra1.out.mod hm (fun _ _ h => h))
      have HMra10 := Lib.hid (HMra5.out.trans hm (fun _ _ h => h))
      clear hm qcut Hra2 Hra3 Hra1 HMra5
      clear hc3
      generalize List.take 100 a.B = cb at *
      obtain ⟨ac, cc, rfl⟩ := Hra6.out.shape
      have fz := Hra9.out.1
      go_wp2_with ((with_reducible show wpList _ _ _ (Oper.mk none (Op.store 32 (.tmp 31) (.tmp 30)) _ _ _ _ :: _) _ _); go_must (refine wpList_storeA rfl 32 (.tmp 31) (.tmp 30) rfl fz (vs := [.slice ac cb.length cc]) (by kernel_rfl) (by simp [Value.oneCell']) (by rw [List.size_toArray, a.len]; simp) rfl rfl ?_))
      clear fz
      intro raw4 hcs hm
      have zra4 := hm.size
      rw [Act01.lay3] at hcs
      have Hra11 := Lib.hid (show LocA (fun k => (wr.heap.size ≤ k ∧ k < raw2.heap.size)) raw4 _ _ from ⟨hcs, Hra9.out.2⟩)
      have hm' := hm.mono (S' := (fun k => (wr.heap.size ≤ k ∧ k < raw2.heap.size))) (fun k _ h => h ▸ Hra11.out.2)
      have Hra12 := Lib.hid (Hra7.out.mod hm' (by intro k h1 h2; (try dsimp only at h1 h2); first | exact Kd.out k h1 h2 | exact Kd.out k h2 h1 | (have hb1 := Kb1.out k h1; omega) | (have hb1 := Kb1.out k h2; omega) | omega))
      have Hra13 := Lib.hid (Hra8.out.mod hm' (by intro k h1 h2; (try dsimp only at h1 h2); first | exact Kd.out k h1 h2 | exact Kd.out k h2 h1 | (have hb1 := Kb2.out k h1; omega) | (have hb1 := Kb2.out k h2; omega) | omega))
      have Hra14 := Lib.hid (Hra6.out.mod hm' (by intro k h1 h2; (try dsimp only at h1 h2); omega))
      have HMra15 := Lib.hid (HMra10.out.trans hm' (by intro k h1 h2; (try dsimp only at h2); omega))
      clear hcs hm hm' Hra9
      have hm4 := Within_any a.Do 4 (by omega) (by omega) HAK.out.d
      have hm5 := within_range a.Do 4 (by omega)
      generalize within a.Do 4 = m at *
      have HKW := Lib.hid hm4
      clear hm4
      have hc0 := Hra11.out.c0
      go_wp2_with fail
      refine (HKW.out _).mono ?_
      rintro e wx ⟨rfl, rfl⟩
      clear hc0
      have hm : m = 0 ∨ m = 1 ∨ m = 2 ∨ m = 3 := by omega
      clear hm5
      rcases hm with rfl | rfl | rfl | rfl
      · have hc2' := Hra11.out.c2
        go_wp2_with fail
        refine (Num_R Hra12.out HAK.out.u (by omega)).mono ?_
        rintro e rabw5 ⟨rfl, qwr, hm⟩
        have zrab5 := hm.size
        have Hrab16 := Lib.hid (qwr.widen (R' := (fun k => R1 k ∨ ((raw4.heap.size ≤ k ∧ k < rabw5.heap.size)))) (by intro k h; unfold New at h; (try dsimp only at h); (try dsimp only); first | (rcases h with h | h <;> first | exact Or.inl h | (rcases h with h | h <;> first | exact Or.inl h | (right; omega)) | (right; omega)) | omega) (Nat.le_refl _))
        have Hrab17 := Lib.hid (Hra13.out.mod hm (by intro k h1 h2; (try dsimp only at h1 h2); first | exact Kd.out k h1 h2 | exact Kd.out k h2 h1 | (have hb1 := Kb1.out k h1; omega) | (have hb1 := Kb1.out k h2; omega) | (have hb1 := Kb2.out k h1; omega) | (have hb1 := Kb2.out k h2; omega) | (have hb1 := Kb2.out k h1; have hb2 := Kb1.out k h2; omega) | omega))
        have Hrab18 := Lib.hid (Hra11.out.mod hm (by intro k h1 h2; (try dsimp only at h1 h2); first | exact Kd.out k h1 h2 | exact Kd.out k h2 h1 | (have hb1 := Kb1.out k h1; omega) | (have hb1 := Kb1.out k h2; omega) | omega))
        have Hrab19 := Lib.hid (Hra14.out.mod hm (by intro k h1 h2; (try dsimp only at h1 h2); first | exact Kd.out k h1 h2 | exact Kd.out k h2 h1 | (have hb1 := Kb1.out k h1; omega) | (have hb1 := Kb1.out k h2; omega) | omega))
        have HMrab20 := Lib.hid (HMra15.out.trans hm (by intro k h1 h2; (try dsimp only at h2); first | (have hb1 := Kb1.out k h2; omega) | omega))
        clear hm qwr Hra12 Hra13 Hra11 Hra14 HMra15
        have hc2'' := Hrab18.out.c2
        go_wp2_with fail
        refine (RefNum_R a.U HAK.out.u _).mono ?_
        rintro e rabw6 ⟨v2, rfl, qn, hm⟩
        have zrab6 := hm.size
        have Hrab21 := Lib.hid (qn.widen (R' := (fun k => (rabw5.heap.size ≤ k ∧ k < rabw6.heap.size))) (by intro k h; unfold New at h; (try dsimp only at h); (try dsimp only); omega) (Nat.le_refl _))
        have Hrab22 := Lib.hid (Hrab16.out.mod hm (fun _ _ h => h))
        have Hrab23 := Lib.hid (Hrab17.out.mod hm (fun _ _ h => h))
        have Hrab24 := Lib.hid (Hrab18.out.mod hm (fun _ _ h => h))
        have Hrab25 := Lib.hid (Hrab19.out.mod hm (fun _ _ h => h))
        have HMrab26 := Lib.hid (HMrab20.out.trans hm (fun _ _ h => h))
        clear hm qn Hrab16 Hrab17 Hrab18 Hrab19 HMrab20
        go_wp2_with (at_builtin; go_must (refine wpList_appR rfl (.tmp 50) (.tmp 53) rfl rfl Hrab23.out rfl Hrab21.out.rd (by omega) ?_))
        intro ao7 cap7 rabw7 qwant hm
        have zrab7 := hm.size
        have Hrab27 := Lib.hid (qwant.widen (R' := (fun k => R2 k ∨ ((rabw6.heap.size ≤ k ∧ k < rabw7.heap.size)))) (by intro k h; unfold New at h; (try dsimp only at h); (try dsimp only); first | (rcases h with h | h <;> first | exact Or.inl h | (rcases h with h | h <;> first | exact Or.inl h | (right; omega)) | (right; omega)) | omega) (Nat.le_refl _))
        have Hrab28 := Lib.hid (Hrab22.out.mod hm (by intro k h1 h2; (try dsimp only at h1 h2); rcases h1 with h1 | h1 <;> first | exact Kd.out k h1 h2 | exact Kd.out k h2 h1 | (have hb1 := Kb1.out k h1; omega) | (have hb1 := Kb1.out k h2; omega) | (have hb1 := Kb2.out k h1; omega) | (have hb1 := Kb2.out k h2; omega) | (have hb1 := Kb1.out k h1; have hb2 := Kb2.out k h2; omega) | omega))
        have Hrab29 := Lib.hid (Hrab24.out.mod hm (by intro k h1 h2; (try dsimp only at h1 h2); first | exact Kd.out k h1 h2 | exact Kd.out k h2 h1 | (have hb1 := Kb2.out k h1; omega) | (have hb1 := Kb2.out k h2; omega) | omega))
        have Hrab30 := Lib.hid (Hrab25.out.mod hm (by intro k h1 h2; (try dsimp only at h1 h2); first | exact Kd.out k h1 h2 | exact Kd.out k h2 h1 | (have hb1 := Kb2.out k h1; omega) | (have hb1 := Kb2.out k h2; omega) | omega))
        have Hrab31 := Lib.hid (Hrab21.out.mod hm (by intro k h1 h2; (try dsimp only at h1 h2); first | exact Kd.out k h1 h2 | exact Kd.out k h2 h1 | (have hb1 := Kb2.out k h1; omega) | (have hb1 := Kb2.out k h2; omega) | omega))
        have HMrab32 := Lib.hid (HMrab26.out.trans hm (by intro k h1 h2; (try dsimp only at h2); first | (have hb1 := Kb2.out k h2; omega) | omega))
        clear hm qwant Hrab23 Hrab22 Hrab24 Hrab25 Hrab21 HMrab26
        go_wp2
        go_roundw
        case rel => exact ⟨i + 1, (fun k => R1 k ∨ ((raw4.heap.size ≤ k ∧ k < rabw5.heap.size))), (fun k => R2 k ∨ ((rabw6.heap.size ≤ k ∧ k < rabw7.heap.size))), bs ++ (encN a.U), by go_num, by omega, by omega, Hrab28.out.widen (fun _ h => h) (by omega), Hrab27.out.widen (fun _ h => h) (by omega), (by intro k h1 h2; (try dsimp only at h1 h2); rcases h1 with h1 | h1 <;> rcases h2 with h2 | h2 <;> first | exact Kd.out k h1 h2 | exact Kd.out k h2 h1 | (have hb1 := Kb1.out k h1; omega) | (have hb1 := Kb1.out k h2; omega) | (have hb1 := Kb2.out k h1; omega) | (have hb1 := Kb2.out k h2; omega) | (have hb1 := Kb1.out k h1; have hb2 := Kb2.out k h2; omega) | omega), (by intro k h; (try dsimp only at h); rcases h with h | h <;> first | (have hb1 := Kb1.out k h; omega) | omega), (by intro k h; (try dsimp only at h); rcases h with h | h <;> first | (have hb1 := Kb2.out k h; omega) | omega), HMrab32.out⟩
        case measure => simp [intOf]; omega
      · have hc1' := Hra11.out.c1
        go_wp2_with fail
        refine (WInt_R (n := a.N) Hra12.out HAK.out.n (by omega)).mono ?_
        rintro e racw5 ⟨rfl, qwr, hm⟩
        have zrac5 := hm.size
        have Hrac16 := Lib.hid (qwr.widen (R' := (fun k => R1 k ∨ ((raw4.heap.size ≤ k ∧ k < racw5.heap.size)))) (by intro k h; unfold New at h; (try dsimp only at h); (try dsimp only); first | (rcases h with h | h <;> first | exact Or.inl h | (rcases h with h | h <;> first | exact Or.inl h | (right; omega)) | (right; omega)) | omega) (Nat.le_refl _))
        have Hrac17 := Lib.hid (Hra13.out.mod hm (by intro k h1 h2; (try dsimp only at h1 h2); first | exact Kd.out k h1 h2 | exact Kd.out k h2 h1 | (have hb1 := Kb1.out k h1; omega) | (have hb1 := Kb1.out k h2; omega) | (have hb1 := Kb2.out k h1; omega) | (have hb1 := Kb2.out k h2; omega) | (have hb1 := Kb2.out k h1; have hb2 := Kb1.out k h2; omega) | omega))
        have Hrac18 := Lib.hid (Hra11.out.mod hm (by intro k h1 h2; (try dsimp only at h1 h2); first | exact Kd.out k h1 h2 | exact Kd.out k h2 h1 | (have hb1 := Kb1.out k h1; omega) | (have hb1 := Kb1.out k h2; omega) | omega))
        have Hrac19 := Lib.hid (Hra14.out.mod hm (by intro k h1 h2; (try dsimp only at h1 h2); first | exact Kd.out k h1 h2 | exact Kd.out k h2 h1 | (have hb1 := Kb1.out k h1; omega) | (have hb1 := Kb1.out k h2; omega) | omega))
        have HMrac20 := Lib.hid (HMra15.out.trans hm (by intro k h1 h2; (try dsimp only at h2); first | (have hb1 := Kb1.out k h2; omega) | omega))
        clear hm qwr Hra12 Hra13 Hra11 Hra14 HMra15
        have hc1'' := Hrac18.out.c1
        go_wp2_with fail
        refine (RefInt_R a.N HAK.out.n _).mono ?_
        rintro e racw6 ⟨v2, rfl, qn, hm⟩
        have zrac6 := hm.size
        have Hrac21 := Lib.hid (qn.widen (R' := (fun k => (racw5.heap.size ≤ k ∧ k < racw6.heap.size))) (by intro k h; unfold New at h; (try dsimp only at h); (try dsimp only); omega) (Nat.le_refl _))
        have Hrac22 := Lib.hid (Hrac16.out.mod hm (fun _ _ h => h))
        have Hrac23 := Lib.hid (Hrac17.out.mod hm (fun _ _ h => h))
        have Hrac24 := Lib.hid (Hrac18.out.mod hm (fun _ _ h => h))
        have Hrac25 := Lib.hid (Hrac19.out.mod hm (fun _ _ h => h))
        have HMrac26 := Lib.hid (HMrac20.out.trans hm (fun _ _ h => h))
        clear hm qn Hrac16 Hrac17 Hrac18 Hrac19 HMrac20
        go_wp2_with (at_builtin; go_must (refine wpList_appR rfl (.tmp 61) (.tmp 64) rfl rfl Hrac23.out rfl Hrac21.out.rd (by omega) ?_))
        intro ao7 cap7 racw7 qwant hm
        have zrac7 := hm.size
        have Hrac27 := Lib.hid (qwant.widen (R' := (fun k => R2 k ∨ ((racw6.heap.size ≤ k ∧ k < racw7.heap.size)))) (by intro k h; unfold New at h; (try dsimp only at h); (try dsimp only); first | (rcases h with h | h <;> first | exact Or.inl h | (rcases h with h | h <;> first | exact Or.inl h | (right; omega)) | (right; omega)) | omega) (Nat.le_refl _))
        have Hrac28 := Lib.hid (Hrac22.out.mod hm (by intro k h1 h2; (try dsimp only at h1 h2); rcases h1 with h1 | h1 <;> first | exact Kd.out k h1 h2 | exact Kd.out k h2 h1 | (have hb1 := Kb1.out k h1; omega) | (have hb1 := Kb1.out k h2; omega) | (have hb1 := Kb2.out k h1; omega) | (have hb1 := Kb2.out k h2; omega) | (have hb1 := Kb1.out k h1; have hb2 := Kb2.out k h2; omega) | omega))
        have Hrac29 := Lib.hid (Hrac24.out.mod hm (by intro k h1 h2; (try dsimp only at h1 h2); first | exact Kd.out k h1 h2 | exact Kd.out k h2 h1 | (have hb1 := Kb2.out k h1; omega) | (have hb1 := Kb2.out k h2; omega) | omega))
        have Hrac30 := Lib.hid (Hrac25.out.mod hm (by intro k h1 h2; (try dsimp only at h1 h2); first | exact Kd.out k h1 h2 | exact Kd.out k h2 h1 | (have hb1 := Kb2.out k h1; omega) | (have hb1 := Kb2.out k h2; omega) | omega))
        have Hrac31 := Lib.hid (Hrac21.out.mod hm (by intro k h1 h2; (try dsimp only at h1 h2); first | exact Kd.out k h1 h2 | exact Kd.out k h2 h1 | (have hb1 := Kb2.out k h1; omega) | (have hb1 := Kb2.out k h2; omega) | omega))
        have HMrac32 := Lib.hid (HMrac26.out.trans hm (by intro k h1 h2; (try dsimp only at h2); first | (have hb1 := Kb2.out k h2; omega) | omega))
        clear hm qwant Hrac23 Hrac22 Hrac24 Hrac25 Hrac21 HMrac26
        go_wp2
        go_roundw
        case rel => exact ⟨i + 1, (fun k => R1 k ∨ ((raw4.heap.size ≤ k ∧ k < racw5.heap.size))), (fun k => R2 k ∨ ((racw6.heap.size ≤ k ∧ k < racw7.heap.size))), bs ++ (encI a.N), by go_num, by omega, by omega, Hrac28.out.widen (fun _ h => h) (by omega), Hrac27.out.widen (fun _ h => h) (by omega), (by intro k h1 h2; (try dsimp only at h1 h2); rcases h1 with h1 | h1 <;> rcases h2 with h2 | h2 <;> first | exact Kd.out k h1 h2 | exact Kd.out k h2 h1 | (have hb1 := Kb1.out k h1; omega) | (have hb1 := Kb1.out k h2; omega) | (have hb1 := Kb2.out k h1; omega) | (have hb1 := Kb2.out k h2; omega) | (have hb1 := Kb1.out k h1; have hb2 := Kb2.out k h2; omega) | omega), (by intro k h; (try dsimp only at h); rcases h with h | h <;> first | (have hb1 := Kb1.out k h; omega) | omega), (by intro k h; (try dsimp only at h); rcases h with h | h <;> first | (have hb1 := Kb2.out k h; omega) | omega), HMrac32.out⟩
        case measure => simp [intOf]; omega
      · have hc31 := Hra11.out.c3
        go_wp2_with fail
        refine (Lend_R Hra14.out.rd (by omega)).mono ?_
        rintro e radw5 ⟨v2, rfl, qlent, hm⟩
        have zrad5 := hm.size
        have Hrad16 := Lib.hid (qlent.widen (R' := (fun k => (raw4.heap.size ≤ k ∧ k < radw5.heap.size))) (by intro k h; unfold New at h; (try dsimp only at h); (try dsimp only); omega) (Nat.le_refl _))
        have Hrad17 := Lib.hid (Hra12.out.mod hm (fun _ _ h => h))
        have Hrad18 := Lib.hid (Hra13.out.mod hm (fun _ _ h => h))
        have Hrad19 := Lib.hid (Hra11.out.mod hm (fun _ _ h => h))
        have Hrad20 := Lib.hid (Hra14.out.mod hm (fun _ _ h => h))
        have HMrad21 := Lib.hid (HMra15.out.trans hm (fun _ _ h => h))
        clear hm qlent Hra12 Hra13 Hra11 Hra14 HMra15
        go_wp2_with fail
        refine (WRow_R Hrad17.out Hrad16.out.rd (by intro k h1 h2; (try dsimp only at h1 h2); first | exact Kd.out k h1 h2 | exact Kd.out k h2 h1 | (have hb1 := Kb1.out k h1; omega) | (have hb1 := Kb1.out k h2; omega) | omega) (by omega)).mono ?_
        rintro e radw6 ⟨rfl, qwr, hm⟩
        have zrad6 := hm.size
        have Hrad22 := Lib.hid (qwr.widen (R' := (fun k => R1 k ∨ ((radw5.heap.size ≤ k ∧ k < radw6.heap.size)))) (by intro k h; unfold New at h; (try dsimp only at h); (try dsimp only); first | (rcases h with h | h <;> first | exact Or.inl h | (rcases h with h | h <;> first | exact Or.inl h | (right; omega)) | (right; omega)) | omega) (Nat.le_refl _))
        have Hrad23 := Lib.hid (Hrad18.out.mod hm (by intro k h1 h2; (try dsimp only at h1 h2); first | exact Kd.out k h1 h2 | exact Kd.out k h2 h1 | (have hb1 := Kb1.out k h1; omega) | (have hb1 := Kb1.out k h2; omega) | (have hb1 := Kb2.out k h1; omega) | (have hb1 := Kb2.out k h2; omega) | (have hb1 := Kb2.out k h1; have hb2 := Kb1.out k h2; omega) | omega))
        have Hrad24 := Lib.hid (Hrad19.out.mod hm (by intro k h1 h2; (try dsimp only at h1 h2); first | exact Kd.out k h1 h2 | exact Kd.out k h2 h1 | (have hb1 := Kb1.out k h1; omega) | (have hb1 := Kb1.out k h2; omega) | omega))
        have Hrad25 := Lib.hid (Hrad20.out.mod hm (by intro k h1 h2; (try dsimp only at h1 h2); first | exact Kd.out k h1 h2 | exact Kd.out k h2 h1 | (have hb1 := Kb1.out k h1; omega) | (have hb1 := Kb1.out k h2; omega) | omega))
        have Hrad26 := Lib.hid (Hrad16.out.mod hm (by intro k h1 h2; (try dsimp only at h1 h2); first | exact Kd.out k h1 h2 | exact Kd.out k h2 h1 | (have hb1 := Kb1.out k h1; omega) | (have hb1 := Kb1.out k h2; omega) | omega))
        have HMrad27 := Lib.hid (HMrad21.out.trans hm (by intro k h1 h2; (try dsimp only at h2); first | (have hb1 := Kb1.out k h2; omega) | omega))
        clear hm qwr Hrad17 Hrad18 Hrad19 Hrad20 Hrad16 HMrad21
        have hc32 := Hrad24.out.c3
        go_wp2_with fail
        refine (RefRow_R Hrad25.out.rd (by omega)).mono ?_
        rintro e radw7 ⟨v3, rfl, qn, hm⟩
        have zrad7 := hm.size
        have Hrad28 := Lib.hid (qn.widen (R' := (fun k => (radw6.heap.size ≤ k ∧ k < radw7.heap.size))) (by intro k h; unfold New at h; (try dsimp only at h); (try dsimp only); omega) (Nat.le_refl _))
        have Hrad29 := Lib.hid (Hrad22.out.mod hm (fun _ _ h => h))
        have Hrad30 := Lib.hid (Hrad23.out.mod hm (fun _ _ h => h))
        have Hrad31 := Lib.hid (Hrad24.out.mod hm (fun _ _ h => h))
        have Hrad32 := Lib.hid (Hrad25.out.mod hm (fun _ _ h => h))
        have Hrad33 := Lib.hid (Hrad26.out.mod hm (fun _ _ h => h))
        have HMrad34 := Lib.hid (HMrad27.out.trans hm (fun _ _ h => h))
        clear hm qn Hrad22 Hrad23 Hrad24 Hrad25 Hrad26 HMrad27
        go_wp2_with (at_builtin; go_must (refine wpList_appR rfl (.tmp 74) (.tmp 77) rfl rfl Hrad30.out rfl Hrad28.out.rd (by omega) ?_))
        intro ao8 cap8 radw8 qwant hm
        have zrad8 := hm.size
        have Hrad35 := Lib.hid (qwant.widen (R' := (fun k => R2 k ∨ ((radw7.heap.size ≤ k ∧ k < radw8.heap.size)))) (by intro k h; unfold New at h; (try dsimp only at h); (try dsimp only); first | (rcases h with h | h <;> first | exact Or.inl h | (rcases h with h | h <;> first | exact Or.inl h | (right; omega)) | (right; omega)) | omega) (Nat.le_refl _))
        have Hrad36 := Lib.hid (Hrad29.out.mod hm (by intro k h1 h2; (try dsimp only at h1 h2); rcases h1 with h1 | h1 <;> first | exact Kd.out k h1 h2 | exact Kd.out k h2 h1 | (have hb1 := Kb1.out k h1; omega) | (have hb1 := Kb1.out k h2; omega) | (have hb1 := Kb2.out k h1; omega) | (have hb1 := Kb2.out k h2; omega) | (have hb1 := Kb1.out k h1; have hb2 := Kb2.out k h2; omega) | omega))
        have Hrad37 := Lib.hid (Hrad31.out.mod hm (by intro k h1 h2; (try dsimp only at h1 h2); first | exact Kd.out k h1 h2 | exact Kd.out k h2 h1 | (have hb1 := Kb2.out k h1; omega) | (have hb1 := Kb2.out k h2; omega) | omega))
        have Hrad38 := Lib.hid (Hrad32.out.mod hm (by intro k h1 h2; (try dsimp only at h1 h2); first | exact Kd.out k h1 h2 | exact Kd.out k h2 h1 | (have hb1 := Kb2.out k h1; omega) | (have hb1 := Kb2.out k h2; omega) | omega))
        have Hrad39 := Lib.hid (Hrad33.out.mod hm (by intro k h1 h2; (try dsimp only at h1 h2); first | exact Kd.out k h1 h2 | exact Kd.out k h2 h1 | (have hb1 := Kb2.out k h1; omega) | (have hb1 := Kb2.out k h2; omega) | omega))
        have Hrad40 := Lib.hid (Hrad28.out.mod hm (by intro k h1 h2; (try dsimp only at h1 h2); first | exact Kd.out k h1 h2 | exact Kd.out k h2 h1 | (have hb1 := Kb2.out k h1; omega) | (have hb1 := Kb2.out k h2; omega) | omega))
        have HMrad41 := Lib.hid (HMrad34.out.trans hm (by intro k h1 h2; (try dsimp only at h2); first | (have hb1 := Kb2.out k h2; omega) | omega))
        clear hm qwant Hrad30 Hrad29 Hrad31 Hrad32 Hrad33 Hrad28 HMrad34
        have hc33 := Hrad37.out.c3
        go_wp2_with fail
        refine (Intact_R Hrad39.out Hrad38.out.rd).mono ?_
        rintro e radw9 ⟨rfl, hm⟩
        have zrad9 := hm.size
        have Hrad42 := Lib.hid (Hrad36.out.mod hm (fun _ _ h => h))
        have Hrad43 := Lib.hid (Hrad35.out.mod hm (fun _ _ h => h))
        have Hrad44 := Lib.hid (Hrad37.out.mod hm (fun _ _ h => h))
        have Hrad45 := Lib.hid (Hrad38.out.mod hm (fun _ _ h => h))
        have Hrad46 := Lib.hid (Hrad39.out.mod hm (fun _ _ h => h))
        have HMrad47 := Lib.hid (HMrad41.out.trans hm (fun _ _ h => h))
        clear hm Hrad36 Hrad35 Hrad37 Hrad38 Hrad39 HMrad41
        go_wp2
        go_roundw
        case rel => exact ⟨i + 1, (fun k => R1 k ∨ ((radw5.heap.size ≤ k ∧ k < radw6.heap.size))), (fun k => R2 k ∨ ((radw7.heap.size ≤ k ∧ k < radw8.heap.size))), bs ++ (encN cb.length ++ cb), by go_num, by omega, by omega, Hrad42.out.widen (fun _ h => h) (by omega), Hrad43.out.widen (fun _ h => h) (by omega), (by intro k h1 h2; (try dsimp only at h1 h2); rcases h1 with h1 | h1 <;> rcases h2 with h2 | h2 <;> first | exact Kd.out k h1 h2 | exact Kd.out k h2 h1 | (have hb1 := Kb1.out k h1; omega) | (have hb1 := Kb1.out k h2; omega) | (have hb1 := Kb2.out k h1; omega) | (have hb1 := Kb2.out k h2; omega) | (have hb1 := Kb1.out k h1; have hb2 := Kb2.out k h2; omega) | omega), (by intro k h; (try dsimp only at h); rcases h with h | h <;> first | (have hb1 := Kb1.out k h; omega) | omega), (by intro k h; (try dsimp only at h); rcases h with h | h <;> first | (have hb1 := Kb2.out k h; omega) | omega), HMrad47.out⟩
        case measure => simp [intOf]; omega
      · have hch := Lib.hid (Hra11.out.ch HAK.out.h)
        go_wp2_with ((with_reducible show wpList _ _ _ (Oper.mk (some 38) _ _ _ _ _ :: _) _ _); go_must (refine wpList_loadA rfl 39 (.tmp 37) rfl Try.underlying39 rfl (cs := a.H.map bv) (by rw [List.length_map, HAK.out.h]; kernel_rfl) rfl hch.out ?_))
        refine (WHash_R Hra12.out HAK.out.h HAK.out.hb (by omega)).mono ?_
        rintro e raew5 ⟨rfl, qwr, hm⟩
        have zrae5 := hm.size
        have Hrae16 := Lib.hid (qwr.widen (R' := (fun k => R1 k ∨ ((raw4.heap.size ≤ k ∧ k < raew5.heap.size)))) (by intro k h; unfold New at h; (try dsimp only at h); (try dsimp only); first | (rcases h with h | h <;> first | exact Or.inl h | (rcases h with h | h <;> first | exact Or.inl h | (right; omega)) | (right; omega)) | omega) (Nat.le_refl _))
        have Hrae17 := Lib.hid (Hra13.out.mod hm (by intro k h1 h2; (try dsimp only at h1 h2); first | exact Kd.out k h1 h2 | exact Kd.out k h2 h1 | (have hb1 := Kb1.out k h1; omega) | (have hb1 := Kb1.out k h2; omega) | (have hb1 := Kb2.out k h1; omega) | (have hb1 := Kb2.out k h2; omega) | (have hb1 := Kb2.out k h1; have hb2 := Kb1.out k h2; omega) | omega))
        have Hrae18 := Lib.hid (Hra11.out.mod hm (by intro k h1 h2; (try dsimp only at h1 h2); first | exact Kd.out k h1 h2 | exact Kd.out k h2 h1 | (have hb1 := Kb1.out k h1; omega) | (have hb1 := Kb1.out k h2; omega) | omega))
        have Hrae19 := Lib.hid (Hra14.out.mod hm (by intro k h1 h2; (try dsimp only at h1 h2); first | exact Kd.out k h1 h2 | exact Kd.out k h2 h1 | (have hb1 := Kb1.out k h1; omega) | (have hb1 := Kb1.out k h2; omega) | omega))
        have HMrae20 := Lib.hid (HMra15.out.trans hm (by intro k h1 h2; (try dsimp only at h2); first | (have hb1 := Kb1.out k h2; omega) | omega))
        clear hm qwr Hra12 Hra13 Hra11 Hra14 HMra15
        have hrh := Lib.hid (Hrae18.out.rd HAK.out.h HAK.out.hb)
        go_wp2_with (at_builtin; go_must (refine wpList_appR rfl (.tmp 40) (.tmp 42) rfl rfl Hrae17.out rfl hrh.out (by omega) ?_))
        intro ao6 cap6 raew6 qwant hm
        have zrae6 := hm.size
        have Hrae21 := Lib.hid (qwant.widen (R' := (fun k => R2 k ∨ ((raew5.heap.size ≤ k ∧ k < raew6.heap.size)))) (by intro k h; unfold New at h; (try dsimp only at h); (try dsimp only); first | (rcases h with h | h <;> first | exact Or.inl h | (rcases h with h | h <;> first | exact Or.inl h | (right; omega)) | (right; omega)) | omega) (Nat.le_refl _))
        have Hrae22 := Lib.hid (Hrae16.out.mod hm (by intro k h1 h2; (try dsimp only at h1 h2); rcases h1 with h1 | h1 <;> first | exact Kd.out k h1 h2 | exact Kd.out k h2 h1 | (have hb1 := Kb1.out k h1; omega) | (have hb1 := Kb1.out k h2; omega) | (have hb1 := Kb2.out k h1; omega) | (have hb1 := Kb2.out k h2; omega) | (have hb1 := Kb1.out k h1; have hb2 := Kb2.out k h2; omega) | omega))
        have Hrae23 := Lib.hid (Hrae18.out.mod hm (by intro k h1 h2; (try dsimp only at h1 h2); first | exact Kd.out k h1 h2 | exact Kd.out k h2 h1 | (have hb1 := Kb2.out k h1; omega) | (have hb1 := Kb2.out k h2; omega) | omega))
        have Hrae24 := Lib.hid (Hrae19.out.mod hm (by intro k h1 h2; (try dsimp only at h1 h2); first | exact Kd.out k h1 h2 | exact Kd.out k h2 h1 | (have hb1 := Kb2.out k h1; omega) | (have hb1 := Kb2.out k h2; omega) | omega))
        have HMrae25 := Lib.hid (HMrae20.out.trans hm (by intro k h1 h2; (try dsimp only at h2); first | (have hb1 := Kb2.out k h2; omega) | omega))
        clear hm qwant Hrae17 Hrae16 Hrae18 Hrae19 HMrae20
        go_wp2
        go_roundw
        case rel => exact ⟨i + 1, (fun k => R1 k ∨ ((raw4.heap.size ≤ k ∧ k < raew5.heap.size))), (fun k => R2 k ∨ ((raew5.heap.size ≤ k ∧ k < raew6.heap.size))), bs ++ (a.H), by go_num, by omega, by omega, Hrae22.out.widen (fun _ h => h) (by omega), Hrae21.out.widen (fun _ h => h) (by omega), (by intro k h1 h2; (try dsimp only at h1 h2); rcases h1 with h1 | h1 <;> rcases h2 with h2 | h2 <;> first | exact Kd.out k h1 h2 | exact Kd.out k h2 h1 | (have hb1 := Kb1.out k h1; omega) | (have hb1 := Kb1.out k h2; omega) | (have hb1 := Kb2.out k h1; omega) | (have hb1 := Kb2.out k h2; omega) | (have hb1 := Kb1.out k h1; have hb2 := Kb2.out k h2; omega) | omega), (by intro k h; (try dsimp only at h); rcases h with h | h <;> first | (have hb1 := Kb1.out k h; omega) | omega), (by intro k h; (try dsimp only at h); rcases h with h | h <;> first | (have hb1 := Kb2.out k h; omega) | omega), HMrae25.out⟩
        case measure => simp [intOf]; omega
    · go_wp2_with fail
      refine (WBytes_R KW.out (by omega)).mono ?_
      rintro e rxw2 ⟨v1, rfl, qby, hm⟩
      have zrx2 := hm.size
      have Hrx1 := Lib.hid (qby.widen (R' := (fun k => (wr.heap.size ≤ k ∧ k < rxw2.heap.size))) (by intro k h; unfold New at h; (try dsimp only at h); (try dsimp only); omega) (Nat.le_refl _))
      have Hrx2 := Lib.hid (KW.out.mod hm (fun _ _ h => h))
      have Hrx3 := Lib.hid (KO.out.mod hm (fun _ _ h => h))
      have HMrx4 := Lib.hid (KM.out.trans hm (fun _ _ h => h))
      clear hm qby KW KO KM
      have HS := Lib.hid (Same_R Hrx1.out.rd Hrx3.out.rd)
      rw [decide_eq_true rfl] at HS
      go_wp2_with fail
      refine (HS.out).mono ?_
      rintro e rxw3 ⟨rfl, hm⟩
      have zrx3 := hm.size
      have Hrx5 := Lib.hid (Hrx2.out.mod hm (fun _ _ h => h))
      have Hrx6 := Lib.hid (Hrx3.out.mod hm (fun _ _ h => h))
      have Hrx7 := Lib.hid (Hrx1.out.mod hm (fun _ _ h => h))
      have HMrx8 := Lib.hid (HMrx4.out.trans hm (fun _ _ h => h))
      clear hm Hrx2 Hrx3 Hrx1 HMrx4
      go_wp2_with fail
      refine (Spoil_R Hrx7.out).mono ?_
      rintro e rxw4 ⟨rfl, hm⟩
      have zrx4 := hm.size
      have Hrx9 := Lib.hid (Hrx5.out.mod hm (by intro k h1 h2; (try dsimp only at h1 h2); first | exact Kd.out k h1 h2 | exact Kd.out k h2 h1 | (have hb1 := Kb1.out k h1; omega) | (have hb1 := Kb1.out k h2; omega) | omega))
      have Hrx10 := Lib.hid (Hrx6.out.mod hm (by intro k h1 h2; (try dsimp only at h1 h2); first | exact Kd.out k h1 h2 | exact Kd.out k h2 h1 | (have hb1 := Kb2.out k h1; omega) | (have hb1 := Kb2.out k h2; omega) | omega))
      have HMrx11 := Lib.hid (HMrx8.out.trans hm (by intro k h1 h2; (try dsimp only at h2); omega))
      clear hm Hrx5 Hrx6 HMrx8
      go_wp2_with fail
      refine (WBytes_R Hrx9.out (by omega)).mono ?_
      rintro e rxw5 ⟨v2, rfl, qbz, hm⟩
      have zrx5 := hm.size
      have Hrx12 := Lib.hid (qbz.widen (R' := (fun k => (rxw4.heap.size ≤ k ∧ k < rxw5.heap.size))) (by intro k h; unfold New at h; (try dsimp only at h); (try dsimp only); omega) (Nat.le_refl _))
      have Hrx13 := Lib.hid (Hrx9.out.mod hm (fun _ _ h => h))
      have Hrx14 := Lib.hid (Hrx10.out.mod hm (fun _ _ h => h))
      have HMrx15 := Lib.hid (HMrx11.out.trans hm (fun _ _ h => h))
      clear hm qbz Hrx9 Hrx10 HMrx11
      have HT := Lib.hid (Same_R Hrx12.out.rd Hrx14.out.rd)
      rw [decide_eq_true rfl] at HT
      go_wp2_with fail
      refine (HT.out).mono ?_
      rintro e rxw6 ⟨rfl, hm⟩
      have zrx6 := hm.size
      have Hrx16 := Lib.hid (Hrx13.out.mod hm (fun _ _ h => h))
      have Hrx17 := Lib.hid (Hrx14.out.mod hm (fun _ _ h => h))
      have Hrx18 := Lib.hid (Hrx12.out.mod hm (fun _ _ h => h))
      have HMrx19 := Lib.hid (HMrx15.out.trans hm (fun _ _ h => h))
      clear hm Hrx13 Hrx14 Hrx12 HMrx15
      go_wp2_with fail
      refine (wakes_R _).mono ?_
      rintro e rxw7 ⟨rfl, hm⟩
      have zrx7 := hm.size
      have HMrx20 := Lib.hid (HMrx19.out.trans hm (fun _ _ h => h))
      clear hm HMrx19
      go_wp2
      go_ret
      exact ⟨rfl, HMrx20.out⟩
    · go_wp2_with fail
      refine (WBytes_R KW.out (by omega)).mono ?_
      rintro e ryw2 ⟨v1, rfl, qby, hm⟩
      have zry2 := hm.size
      have Hry1 := Lib.hid (qby.widen (R' := (fun k => (wr.heap.size ≤ k ∧ k < ryw2.heap.size))) (by intro k h; unfold New at h; (try dsimp only at h); (try dsimp only); omega) (Nat.le_refl _))
      have Hry2 := Lib.hid (KW.out.mod hm (fun _ _ h => h))
      have Hry3 := Lib.hid (KO.out.mod hm (fun _ _ h => h))
      have HMry4 := Lib.hid (KM.out.trans hm (fun _ _ h => h))
      clear hm qby KW KO KM
      have HS := Lib.hid (Same_R Hry1.out.rd Hry3.out.rd)
      rw [decide_eq_true rfl] at HS
      go_wp2_with fail
      refine (HS.out).mono ?_
      rintro e ryw3 ⟨rfl, hm⟩
      have zry3 := hm.size
      have Hry5 := Lib.hid (Hry2.out.mod hm (fun _ _ h => h))
      have Hry6 := Lib.hid (Hry3.out.mod hm (fun _ _ h => h))
      have Hry7 := Lib.hid (Hry1.out.mod hm (fun _ _ h => h))
      have HMry8 := Lib.hid (HMry4.out.trans hm (fun _ _ h => h))
      clear hm Hry2 Hry3 Hry1 HMry4
      go_wp2_with fail
      refine (Spoil_R Hry7.out).mono ?_
      rintro e ryw4 ⟨rfl, hm⟩
      have zry4 := hm.size
      have Hry9 := Lib.hid (Hry5.out.mod hm (by intro k h1 h2; (try dsimp only at h1 h2); first | exact Kd.out k h1 h2 | exact Kd.out k h2 h1 | (have hb1 := Kb1.out k h1; omega) | (have hb1 := Kb1.out k h2; omega) | omega))
      have Hry10 := Lib.hid (Hry6.out.mod hm (by intro k h1 h2; (try dsimp only at h1 h2); first | exact Kd.out k h1 h2 | exact Kd.out k h2 h1 | (have hb1 := Kb2.out k h1; omega) | (have hb1 := Kb2.out k h2; omega) | omega))
      have HMry11 := Lib.hid (HMry8.out.trans hm (by intro k h1 h2; (try dsimp only at h2); omega))
      clear hm Hry5 Hry6 HMry8
      go_wp2_with fail
      refine (WBytes_R Hry9.out (by omega)).mono ?_
      rintro e ryw5 ⟨v2, rfl, qbz, hm⟩
      have zry5 := hm.size
      have Hry12 := Lib.hid (qbz.widen (R' := (fun k => (ryw4.heap.size ≤ k ∧ k < ryw5.heap.size))) (by intro k h; unfold New at h; (try dsimp only at h); (try dsimp only); omega) (Nat.le_refl _))
      have Hry13 := Lib.hid (Hry9.out.mod hm (fun _ _ h => h))
      have Hry14 := Lib.hid (Hry10.out.mod hm (fun _ _ h => h))
      have HMry15 := Lib.hid (HMry11.out.trans hm (fun _ _ h => h))
      clear hm qbz Hry9 Hry10 HMry11
      have HT := Lib.hid (Same_R Hry12.out.rd Hry14.out.rd)
      rw [decide_eq_true rfl] at HT
      go_wp2_with fail
      refine (HT.out).mono ?_
      rintro e ryw6 ⟨rfl, hm⟩
      have zry6 := hm.size
      have Hry16 := Lib.hid (Hry13.out.mod hm (fun _ _ h => h))
      have Hry17 := Lib.hid (Hry14.out.mod hm (fun _ _ h => h))
      have Hry18 := Lib.hid (Hry12.out.mod hm (fun _ _ h => h))
      have HMry19 := Lib.hid (HMry15.out.trans hm (fun _ _ h => h))
      clear hm Hry13 Hry14 Hry12 HMry15
      go_wp2_with fail
      refine (wakes_R _).mono ?_
      rintro e ryw7 ⟨rfl, hm⟩
      have zry7 := hm.size
      have HMry20 := Lib.hid (HMry19.out.trans hm (fun _ _ h => h))
      clear hm HMry19
      go_wp2
      go_ret
      exact ⟨rfl, HMry20.out⟩
end Go.Proofs.Ytceojplopbjokaa
