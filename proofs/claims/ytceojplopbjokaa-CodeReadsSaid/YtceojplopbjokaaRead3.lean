/- gavelref01.Reader: rows. -/
import Derived.Test.YtceojplopbjokaaRead2
set_option maxRecDepth 100000
set_option linter.unusedVariables false
namespace Go.Proofs.Ytceojplopbjokaa
open Go Go.RowKit Go.Gv

theorem RefRRow_any (r : Nat) (most : Int) (v : Value) (s : RSt) (w : World) (hR : Rr 75 w r v s) (hm : -9223372036854775808 ≤ most ∧ most ≤ 9223372036854775807) (hlen : (s.getD []).length ≤ 1000000000) :
    Calls Try.prog 55 #[.pointer (some ⟨r, 0, none⟩), .int .i64 most] w fun e w' => ∃ v', e = .returned v' ∧ OwnB w' v' (rRow most s).1 ∧ Fresh w v' ∧ RrTo 75 w r v (rRow most s).2 w' := by
  have key := RefRInt_any r most v s w hR hm
  have hl2 := rInt_len most s
  have hn := rInt_le most s
  have hrow : rRow most s = rTake (rInt most s).1 (rInt most s).2 := rfl
  rw [hrow]
  clear hrow
  generalize rInt most s = res at *
  obtain ⟨n, s1⟩ := res
  dsimp only at *
  have hn9 : (n : Int) ≤ 9223372036854775807 := by omega
  have K := Lib.hid key
  have HL := Lib.hid (rTake_len n s1)
  clear key hn hm
  by_cases h : (s1.getD []).length < n
  · have hs : rTake n s1 = ([], none) := by
      cases s1 with
      | none => rfl
      | some l => simp at h; simp [rTake, h]
    have HS := Lib.hid hs
    clear hs
    go_enter Try.func55, Try.ntmps55
    go_wp2_with fail
    refine K.out.mono ?_
    rintro e w1 ⟨rfl, v1, hR1, hm1, hb1⟩
    have HM1 := Lib.hid hm1
    have HB1 := Lib.hid hb1
    have c0 : w1.cell? ⟨r, 0, none⟩ = some v1 := (hR1.1.cell 0).trans rfl
    have HF := Lib.hid (RefFail_any r v1 s1 w1 hR1)
    obtain ⟨ao, cap, rfl, hlc, hcm⟩ := hR1.2.1.shape
    clear hR1 hm1 hb1 hl2
    generalize hs1 : (s1.getD []).length = m at *
    have hd : (m : Int) < n := by omega
    have HS1 := Lib.hid hs1
    clear hs1
    go_wp2_with fail
    refine HF.out.mono ?_
    rintro e w2 ⟨rfl, hR2⟩
    have HR2 := Lib.hid hR2
    clear hR2
    go_wp2
    go_ret
    rw [HS.out]
    exact ⟨_, rfl, OwnB.nil _, (fun g hg => by cases hg), RrTo.trans (s1 := s1) HM1.out (by rw [HS1.out]; exact HB1.out) HR2.out (by simp)⟩
  · have hs : rTake n s1 = ((s1.getD []).take n, s1.map (List.drop n)) := by
      cases s1 with
      | none => simp [rTake]
      | some l => simp at h; simp [rTake, h]
    have HS := Lib.hid hs
    clear hs
    have hgd : (s1.map (List.drop n)).getD [] = (s1.getD []).drop n := by cases s1 <;> simp
    have hns : s1.isNone = (s1.map (List.drop n)).isNone := by cases s1 <;> rfl
    have HGD := Lib.hid hgd
    have HNS := Lib.hid hns
    clear hgd hns
    go_enter Try.func55, Try.ntmps55
    go_wp2_with fail
    refine K.out.mono ?_
    rintro e w1 ⟨rfl, v1, hR1, hm1, hb1⟩
    have HM1 := Lib.hid hm1
    have HB1 := Lib.hid hb1
    clear hm1 hb1
    have c0 : w1.cell? ⟨r, 0, none⟩ = some v1 := (hR1.1.cell 0).trans rfl
    have f0 := hR1.1.frozen 0
    have hlt := hR1.1.lt
    obtain ⟨hc, hr, hap⟩ := hR1
    have HC := Lib.hid hc
    have HAP0 := Lib.hid hap
    clear hc
    generalize hl : s1.getD [] = l at *
    have HL1 := Lib.hid hl
    clear hl
    obtain ⟨ao, cap, rfl, hlc, hcm⟩ := hr.shape
    rw [maxLen_val] at hcm
    have hup := hr.upto n (by omega)
    have Hroom := Lib.hid (show ([] : List Int).length + (l.take n).length ≤ Room by simp; unfold Room; omega)
    have HUP := Lib.hid hup
    have HR := Lib.hid hr
    have el : (l.take n).length = n := by simp; omega
    have EL := Lib.hid el
    have hd : ¬ (l.length : Int) < n := by omega
    have hnl : n ≤ l.length := by omega
    clear hup hr hap el hl2 hlen
    go_wp2_with (at_builtin; go_must (refine wpList_appB rfl (.const (.slice none 0 0)) (.tmp 24) rfl rfl (OwnB.nil _) (new := l.take n) rfl HUP.out Hroom.out ?_))
    intro ao1 cap1 w2 happ
    have hm : Mod (fun _ => False) w1 w2 := happ.2.1.mono (fun k _ hk => by simp [Value.ownBlock] at hk)
    have hc1 := HC.out.mod hm id
    have c1 : w2.cell? ⟨r, 0, none⟩ = some (.slice ao l.length cap) := (hc1.cell 0).trans rfl
    have f1 := hc1.frozen 0
    have HA := Lib.hid happ
    have HM := Lib.hid hm
    clear happ hm hc1
    go_wp2
    all_goals go_ret
    · obtain ⟨h1, _, h3⟩ := HA.out
      rw [HS.out]
      have hcap : cap = n := by assumption
      subst hcap
      have HR2 := HR.out.tail_at cap (by omega) rfl
      have hT := Rr_tail HC.out (by rw [HL1.out]; exact HAP0.out) (s2 := s1.map (List.drop cap)) (by rw [HGD.out]; exact HR2) (fun h => by rw [HGD.out] at h; simp at h; omega) HM.out (by rw [HGD.out, HL1.out]; simp) HNS.out
      refine ⟨.slice ao1 cap cap1, rfl, ?_, ?_, RrTo.trans (s1 := s1) HM1.out (by rw [HL1.out]; exact HB1.out) hT (by rw [HGD.out, HL1.out]; simp)⟩
      · refine Own.other h1 ?_ _
        intro g hg e
        rcases h3 with h3 | ⟨k, h3, hk⟩
        · rw [h3] at hg; cases hg
        · rw [h3] at hg; simp at hg; simp only at e; omega
      · intro g hg
        have := HM1.out.size
        rcases h3 with h3 | ⟨k, h3, hk⟩
        · rw [h3] at hg; cases hg
        · rw [h3] at hg; simp at hg; omega
    · obtain ⟨h1, _, h3⟩ := HA.out
      rw [HS.out]
      have hcap : ¬ cap = n := by assumption
      have HR2 := HR.out.tail_in n (by omega) hcap
      have hT := Rr_tail HC.out (by rw [HL1.out]; exact HAP0.out) (s2 := s1.map (List.drop n)) (by rw [HGD.out]; exact HR2) (fun _ => ownBlock_map _ _ _ _ _ _) HM.out (by rw [HGD.out, HL1.out]; simp) HNS.out
      refine ⟨.slice ao1 n cap1, rfl, ?_, ?_, RrTo.trans (s1 := s1) HM1.out (by rw [HL1.out]; exact HB1.out) hT (by rw [HGD.out, HL1.out]; simp)⟩
      · refine Own.other h1 ?_ _
        intro g hg e
        rcases h3 with h3 | ⟨k, h3, hk⟩
        · rw [h3] at hg; cases hg
        · rw [h3] at hg; simp at hg; simp only at e; omega
      · intro g hg
        have := HM1.out.size
        rcases h3 with h3 | ⟨k, h3, hk⟩
        · rw [h3] at hg; cases hg
        · rw [h3] at hg; simp at hg; omega

theorem zeros_lay : lay ((List.replicate 32 0).map bv).toArray 0 ((List.replicate 32 0).map bv) = ((List.replicate 32 0).map bv).toArray := by rw [lay_whole]; simp

/-- two hashes in blocks of their own, behind w -/
theorem two_hashes {r : Nat} {v : Value} {s : RSt} {w : World} (hR : Rr 75 w r v s) :
    ∃ w2, (w.alloc (.cells #[bv 0, bv 0, bv 0, bv 0, bv 0, bv 0, bv 0, bv 0, bv 0, bv 0, bv 0, bv 0, bv 0, bv 0, bv 0, bv 0, bv 0, bv 0, bv 0, bv 0, bv 0, bv 0, bv 0, bv 0, bv 0, bv 0, bv 0, bv 0, bv 0, bv 0, bv 0, bv 0] 39)).alloc (.cells #[bv 0, bv 0, bv 0, bv 0, bv 0, bv 0, bv 0, bv 0, bv 0, bv 0, bv 0, bv 0, bv 0, bv 0, bv 0, bv 0, bv 0, bv 0, bv 0, bv 0, bv 0, bv 0, bv 0, bv 0, bv 0, bv 0, bv 0, bv 0, bv 0, bv 0, bv 0, bv 0] 39) = w2 ∧ Rr 75 w2 r v s ∧ Cs w2 w.heap.size ((List.replicate 32 0).map bv).toArray 39 ∧ Cs w2 (w.heap.size + 1) ((List.replicate 32 0).map bv).toArray 39 ∧ Mod (fun _ => False) w w2 := by
  have hs : (w.alloc (.cells #[bv 0, bv 0, bv 0, bv 0, bv 0, bv 0, bv 0, bv 0, bv 0, bv 0, bv 0, bv 0, bv 0, bv 0, bv 0, bv 0, bv 0, bv 0, bv 0, bv 0, bv 0, bv 0, bv 0, bv 0, bv 0, bv 0, bv 0, bv 0, bv 0, bv 0, bv 0, bv 0] 39)).heap.size = w.heap.size + 1 := by simp
  have h1 : Cs (w.alloc (.cells #[bv 0, bv 0, bv 0, bv 0, bv 0, bv 0, bv 0, bv 0, bv 0, bv 0, bv 0, bv 0, bv 0, bv 0, bv 0, bv 0, bv 0, bv 0, bv 0, bv 0, bv 0, bv 0, bv 0, bv 0, bv 0, bv 0, bv 0, bv 0, bv 0, bv 0, bv 0, bv 0] 39)) w.heap.size ((List.replicate 32 0).map bv).toArray 39 := Cs.new w _ _
  have h2 : Cs ((w.alloc (.cells #[bv 0, bv 0, bv 0, bv 0, bv 0, bv 0, bv 0, bv 0, bv 0, bv 0, bv 0, bv 0, bv 0, bv 0, bv 0, bv 0, bv 0, bv 0, bv 0, bv 0, bv 0, bv 0, bv 0, bv 0, bv 0, bv 0, bv 0, bv 0, bv 0, bv 0, bv 0, bv 0] 39)).alloc (.cells #[bv 0, bv 0, bv 0, bv 0, bv 0, bv 0, bv 0, bv 0, bv 0, bv 0, bv 0, bv 0, bv 0, bv 0, bv 0, bv 0, bv 0, bv 0, bv 0, bv 0, bv 0, bv 0, bv 0, bv 0, bv 0, bv 0, bv 0, bv 0, bv 0, bv 0, bv 0, bv 0] 39)) (w.alloc (.cells #[bv 0, bv 0, bv 0, bv 0, bv 0, bv 0, bv 0, bv 0, bv 0, bv 0, bv 0, bv 0, bv 0, bv 0, bv 0, bv 0, bv 0, bv 0, bv 0, bv 0, bv 0, bv 0, bv 0, bv 0, bv 0, bv 0, bv 0, bv 0, bv 0, bv 0, bv 0, bv 0] 39)).heap.size ((List.replicate 32 0).map bv).toArray 39 := Cs.new _ _ _
  rw [hs] at h2
  exact ⟨_, rfl, (hR.mod (S := fun _ => False) ((Mod.refl _ _).alloc _) id Apart.none).mod (S := fun _ => False) ((Mod.refl _ _).alloc _) id Apart.none, h1.mod (S := fun _ => False) ((Mod.refl _ _).alloc _) id, h2, ((Mod.refl _ _).alloc _).alloc _⟩

theorem RefRHash_fails (r : Nat) (v : Value) (s : RSt) (w : World) (hR : Rr 75 w r v s) (hlt32 : (s.getD []).length < 32) :
    Calls Try.prog 57 #[.pointer (some ⟨r, 0, none⟩)] w fun e w' => e = .returned (hv (List.replicate 32 0)) ∧ RrTo 75 w r v none w' := by
  have hlt := hR.1.lt
  have c0 : w.cell? ⟨r, 0, none⟩ = some v := (hR.1.cell 0).trans rfl
  obtain ⟨ao, cap, rfl, hlc, hcm⟩ := hR.2.1.shape
  obtain ⟨w2, e2, hR2, hc2, hd2, hm2⟩ := two_hashes hR
  have HF := Lib.hid (RefFail_any r _ s w2 hR2)
  have E2 := Lib.hid e2
  have HC2 := Lib.hid hc2
  have HD2 := Lib.hid hd2
  have HM2 := Lib.hid hm2
  clear e2 hc2 hd2 hm2 hR2 hR
  generalize hs1 : (s.getD []).length = m at *
  have HS1 := Lib.hid hs1
  clear hs1
  go_enter Try.func57, Try.ntmps57
  go_wp2_with fail
  rw [E2.out]
  refine HF.out.mono ?_
  rintro e w3 ⟨rfl, v3, hR3, hm3, hb3⟩
  have HC3 := Lib.hid (HC2.out.mod hm3 (by omega))
  have HD3 := Lib.hid (HD2.out.mod hm3 (by omega))
  have HR3 := Lib.hid hR3
  have HM3 := Lib.hid hm3
  clear hR3 hm3 hb3
  have hdc : ∀ j u, ((List.replicate 32 0).map bv)[j]? = some u → w3.cell? ⟨w.heap.size + 1, 0 + j, none⟩ = some u := fun j u hu => by rw [Nat.zero_add, HD3.out.cell]; simpa using hu
  have HDC := Lib.hid hdc
  clear hdc
  go_wp2_with (first
    | ((with_reducible show wpList _ _ _ (Oper.mk (some 13) _ _ _ _ _ :: _) _ _); go_must (refine wpList_loadA rfl 39 (.tmp 3) rfl Try.underlying39 rfl (cs := (List.replicate 32 0).map bv) size_hash rfl HDC.out ?_))
    | ((with_reducible show wpList _ _ _ (Oper.mk none (Op.store 39 (.tmp 2) (.tmp 13)) _ _ _ _ :: _) _ _); go_must (refine wpList_storeA rfl 39 (.tmp 2) (.tmp 13) rfl HC3.out (vs := (List.replicate 32 0).map bv) size_hash (ints_oneCell .u8 _) (by simp) rfl rfl ?_); intro w4 hc4 hm4; have HC4 := Lib.hid hc4; have HM4 := Lib.hid hm4; clear hc4 hm4))
  have hc4 := HC4.out
  rw [zeros_lay] at hc4
  refine bodyPost_ret (results_cellA rfl _ _ w.heap.size ((List.replicate 32 0).map bv) rfl (fun j u hu => by rw [hc4.cell]; simpa using hu) Try.underlying39 rfl size_hash) rfl ⟨rfl, ?_⟩
  obtain ⟨q1, q2, q3⟩ := HR3.out
  refine ⟨v3, ⟨q1.mod HM4.out (by omega), q2.mod HM4.out (by simp [Apart]), q3⟩, ?_, by simp⟩
  have m3 : Mod (fun k => k = r) w w3 := (HM2.out.mono (fun _ _ h => h.elim)).trans HM3.out (fun _ _ h => h)
  exact m3.trans (HM4.out.mono (S' := fun k => w.heap.size ≤ k) (fun k _ h => by omega)) (fun i hi h => by omega)
end Go.Proofs.Ytceojplopbjokaa
