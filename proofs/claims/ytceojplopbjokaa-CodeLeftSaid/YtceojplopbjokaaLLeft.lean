/- CodeLeft: the walk. -/
import Derived.Test.YtceojplopbjokaaOwV
import Derived.IntWalk
set_option maxRecDepth 100000
set_option linter.unusedVariables false
namespace Go.Proofs.Ytceojplopbjokaa
open Go Go.RowKit Go.Gv

theorem flat_split {α : Type} (f : α → List Int) (l : List α) (n j : Nat) (h : j ≤ n) : ((l.take j).flatMap f).length + (((l.take n).drop j).flatMap f).length = ((l.take n).flatMap f).length := by
  rw [← List.length_append, ← List.flatMap_append]
  congr 2
  conv => rhs; rw [← List.take_append_drop j (l.take n)]
  rw [List.take_take, Nat.min_eq_left h]
theorem ats_succ {f : Act01 → List Int} {l : List Act01} {cs : List Value} {i n : Nat} (hcl : cs.length = i) (hcs : ∀ j, j < i → cs[j]? = some (.int .i64 ((l.take j).flatMap f).length)) (hn : n = ((l.take i).flatMap f).length) :
    ∀ j, j < i + 1 → (cs ++ [.int .i64 n])[j]? = some (.int .i64 ((l.take j).flatMap f).length) := by
  intro j hj
  by_cases h : j < i
  · rw [List.getElem?_append_left (by omega)]; exact hcs j h
  · obtain rfl : j = i := by omega
    rw [List.getElem?_append_right (by omega), hcl, Nat.sub_self, hn]; rfl

set_option maxHeartbeats 2000000 in
theorem CodeLeft_walk (vl vt : Value) (l : List Act01) (ts : List Int) (w : World) (hl : RdA (fun k => k < w.heap.size) w vl l) (hok : ∀ a ∈ l, a.Ok w) (ht : RdR (fun k => k < w.heap.size) ts.length w vt ts) :
    Calls Try.prog 14 #[vl, vt] w fun e w' => e = .returned (.bool true) ∧ Mod (fun _ => False) w w' := by
  obtain ⟨ao, cap, rfl, hlm⟩ := hl.shape
  obtain ⟨at_, capt, rfl⟩ := ht.shape
  rw [maxLen_val] at hlm
  have htm := ht.1.len
  rw [maxLen_val] at htm
  have HL := Lib.hid hl
  have HLb := Lib.hid hl
  have HTb := Lib.hid ht
  have HOK := Lib.hid hok
  clear hl hok ht
  go_enter Try.func14, Try.ntmps14
  go_wp2_with fail
  refine (NewWriter_R _).mono ?_
  rintro e w1 ⟨b, rfl, qwr, hm⟩
  have z1 := hm.size
  have H1 := Lib.hid (qwr.widen (R' := (fun k => (w.heap.size ≤ k ∧ k < w1.heap.size))) (by intro k h; unfold New at h; (try dsimp only at h); (try dsimp only); omega) (Nat.le_refl _))
  have H2 := Lib.hid (HL.out.mod hm (fun _ _ h => h))
  have HM3 := Lib.hid ((Mod.refl (fun _ => False) w).trans hm (fun _ _ h => h))
  clear hm qwr HL
  go_wp2
  go_loopw [6, 7] (fun t6 t7 wr => ∃ (i : Nat) (R1 R2 : Nat → Prop) (bs : List Int) (cs : List Value), t7 = .int .i64 i ∧ i ≤ 10 ∧ i ≤ l.length ∧ bs = (l.take i).flatMap (actB 1099511627776 30) ∧ cs.length = i ∧ (∀ j, j < i → cs[j]? = some (.int .i64 ((l.take j).flatMap (actB 1099511627776 30)).length)) ∧ WrR R1 (100 * i) wr b bs ∧ OwV 3 R2 i wr t6 cs ∧ (∀ k, R1 k → R2 k → False) ∧ (∀ k, R1 k → w.heap.size ≤ k ∧ k < wr.heap.size) ∧ (∀ k, R2 k → w.heap.size ≤ k ∧ k < wr.heap.size) ∧ Mod (fun _ => False) w wr) (fun _ t7 _ => l.length - (intOf t7).toNat)
  case atStart => exact ⟨0, _, (fun _ => False), [], [], rfl, by omega, by omega, rfl, rfl, (by intro j h; omega), H1.out, OwV.nil _ _ _, (fun _ _ h => h), (by intro k h; (try dsimp only at h); omega), (by intro k h; exact h.elim), HM3.out⟩
  case round =>
    obtain ⟨wo, rfl⟩ : ∃ x, x = wr := ⟨_, rfl⟩
    obtain ⟨i, R1, R2, bs, cs, rfl, hi10, hil, hbs, hcl, hcs, hW, hO, hd, hb1, hb2, hm⟩ := hrel
    subst hcl
    obtain ⟨ao2, cap2, rfl⟩ := hO.shape
    have KW := Lib.hid hW
    have KO := Lib.hid hO
    have Kd := Lib.hid hd
    have Kb1 := Lib.hid hb1
    have Kb2 := Lib.hid hb2
    have Kbs := Lib.hid hbs
    have Kcs := Lib.hid hcs
    have HL0 := Lib.hid (HLb.out.mod hm (fun _ _ h => h))
    have KM := Lib.hid hm
    have zr0 := hm.size
    clear hW hO hd hb1 hb2 hbs hcs hm
    by_cases hc1 : cs.length < l.length
    by_cases hc2 : cs.length < 10
    · obtain ⟨gl, ol, rfl, -⟩ := HL0.out.at hc1
      have HSN := Lib.hid (flat_take_succ (actB 1099511627776 30) l cs.length hc1)
      have hak := HOK.out l[cs.length] (List.getElem_mem hc1)
      obtain ⟨a, hla⟩ : ∃ a, l[cs.length] = a := ⟨_, rfl⟩
      rw [hla] at hak HSN
      have HLA := Lib.hid hla
      have HAK := Lib.hid hak
      clear hak hla
      go_wp2_with fail
      refine (WBytes_R KW.out (by omega)).mono ?_
      rintro e raw2 ⟨v1, rfl, qby, hm⟩
      have zra2 := hm.size
      have Hra1 := Lib.hid (qby.widen (R' := (fun k => (wo.heap.size ≤ k ∧ k < raw2.heap.size))) (by intro k h; unfold New at h; (try dsimp only at h); (try dsimp only); omega) (Nat.le_refl _))
      have Hra2 := Lib.hid (KW.out.mod hm (fun _ _ h => h))
      have Hra3 := Lib.hid (KO.out.mod hm (fun _ _ h => h))
      have Hra4 := Lib.hid (HL0.out.mod hm (fun _ _ h => h))
      have HMra5 := Lib.hid (KM.out.trans hm (fun _ _ h => h))
      clear hm qby KW KO HL0 KM
      obtain ⟨ab, cb, rfl⟩ := Hra1.out.shape
      go_wp2_with (at_builtin; go_must (refine wpList_appV1 rfl (.tmp 24) (.tmp 28) 80 3 (.int .i64 0) 8 rfl Try.underlying80 (by kernel_rfl) rfl rfl rfl Hra3.out rfl rfl (by omega) (by omega) ?_))
      intro ao3 cap3 raw3 qat hm
      have zra3 := hm.size
      have Hra6 := Lib.hid (qat.widen (R' := (fun k => R2 k ∨ ((raw2.heap.size ≤ k ∧ k < raw3.heap.size)))) (by intro k h; unfold New at h; (try dsimp only at h); (try dsimp only); first | (rcases h with h | h <;> first | exact Or.inl h | (rcases h with h | h <;> first | exact Or.inl h | (right; omega)) | (right; omega)) | omega) (Nat.le_refl _))
      have Hra7 := Lib.hid (Hra2.out.mod hm (by intro k h1 h2; (try dsimp only at h1 h2); first | exact Kd.out k h1 h2 | exact Kd.out k h2 h1 | (have hb1 := Kb1.out k h1; omega) | (have hb1 := Kb1.out k h2; omega) | (have hb1 := Kb2.out k h1; omega) | (have hb1 := Kb2.out k h2; omega) | (have hb1 := Kb1.out k h1; have hb2 := Kb2.out k h2; omega) | omega))
      have Hra8 := Lib.hid (Hra4.out.mod hm (by intro k h1 h2; (try dsimp only at h1 h2); first | exact Kd.out k h1 h2 | exact Kd.out k h2 h1 | (have hb1 := Kb2.out k h1; omega) | (have hb1 := Kb2.out k h2; omega) | omega))
      have HMra9 := Lib.hid (HMra5.out.trans hm (by intro k h1 h2; (try dsimp only at h2); first | (have hb1 := Kb2.out k h2; omega) | omega))
      clear hm qat Hra3 Hra2 Hra4 HMra5
      have HA0 := Lib.hid (actB_0 (nm := 1099511627776) (row := 30) (a := a))
      have HA1 := Lib.hid (actB_1 (nm := 1099511627776) (row := 30) (a := a))
      have HA2 := Lib.hid (actB_2 (nm := 1099511627776) (row := 30) (a := a))
      have HA3 := Lib.hid (actB_3 (nm := 1099511627776) (row := 30) (a := a))
      obtain ⟨kn, hkn, hkl⟩ := within_nat a.N 1099511627776 (by omega)
      have HKN := Lib.hid (Within_any a.N 1099511627776 (by omega) (by omega) HAK.out.n)
      rw [hkn] at HKN HA1
      clear hkn
      rw [Int.toNat_natCast] at HA1
      have hm5 := within_range a.Do 4 (by omega)
      have HKW := Lib.hid (Within_any a.Do 4 (by omega) (by omega) HAK.out.d)
      generalize within a.Do 4 = m at *
      have hm : m = 0 ∨ m = 1 ∨ m = 2 ∨ m = 3 := by omega
      clear hm5
      have hc0 := RdA_0 Hra8.out hc1 HLA.out
      go_wp2_with fail
      refine (HKW.out _).mono ?_
      rintro e wx ⟨rfl, rfl⟩
      clear hc0
      rcases hm with rfl | rfl | rfl | rfl
      · have hf2 := RdA_2 Hra8.out hc1 HLA.out
        go_wp2_with fail
        refine (Num_R Hra7.out HAK.out.u (by omega)).mono ?_
        rintro e rabw4 ⟨rfl, qwr, hm⟩
        have zrab4 := hm.size
        have Hrab10 := Lib.hid (qwr.widen (R' := (fun k => R1 k ∨ ((raw3.heap.size ≤ k ∧ k < rabw4.heap.size)))) (by intro k h; unfold New at h; (try dsimp only at h); (try dsimp only); first | (rcases h with h | h <;> first | exact Or.inl h | (rcases h with h | h <;> first | exact Or.inl h | (right; omega)) | (right; omega)) | omega) (Nat.le_refl _))
        have Hrab11 := Lib.hid (Hra6.out.mod hm (by intro k h1 h2; (try dsimp only at h1 h2); rcases h1 with h1 | h1 <;> first | exact Kd.out k h1 h2 | exact Kd.out k h2 h1 | (have hb1 := Kb1.out k h1; omega) | (have hb1 := Kb1.out k h2; omega) | (have hb1 := Kb2.out k h1; omega) | (have hb1 := Kb2.out k h2; omega) | (have hb1 := Kb2.out k h1; have hb2 := Kb1.out k h2; omega) | omega))
        have Hrab12 := Lib.hid (Hra8.out.mod hm (by intro k h1 h2; (try dsimp only at h1 h2); first | exact Kd.out k h1 h2 | exact Kd.out k h2 h1 | (have hb1 := Kb1.out k h1; omega) | (have hb1 := Kb1.out k h2; omega) | omega))
        have HMrab13 := Lib.hid (HMra9.out.trans hm (by intro k h1 h2; (try dsimp only at h2); first | (have hb1 := Kb1.out k h2; omega) | omega))
        clear hm qwr Hra7 Hra6 Hra8 HMra9
        go_wp2
        go_roundw
        case rel => exact ⟨cs.length + 1, (fun k => R1 k ∨ ((raw3.heap.size ≤ k ∧ k < rabw4.heap.size))), (fun k => R2 k ∨ ((raw2.heap.size ≤ k ∧ k < raw3.heap.size))), bs ++ (encN a.U), cs ++ [.int .i64 bs.length], by go_num, by omega, by omega, by rw [HSN.out, HA0.out (by first | rfl | trivial), ← Kbs.out], by simp, ats_succ (f := (actB 1099511627776 30)) rfl Kcs.out (by rw [Kbs.out]), Hrab10.out.widen (fun _ h => h) (by omega), Hrab11.out, (by intro k h1 h2; (try dsimp only at h1 h2); rcases h1 with h1 | h1 <;> rcases h2 with h2 | h2 <;> first | exact Kd.out k h1 h2 | exact Kd.out k h2 h1 | (have hb1 := Kb1.out k h1; omega) | (have hb1 := Kb1.out k h2; omega) | (have hb1 := Kb2.out k h1; omega) | (have hb1 := Kb2.out k h2; omega) | (have hb1 := Kb1.out k h1; have hb2 := Kb2.out k h2; omega) | omega), (by intro k h; (try dsimp only at h); rcases h with h | h <;> first | (have hb1 := Kb1.out k h; omega) | omega), (by intro k h; (try dsimp only at h); rcases h with h | h <;> first | (have hb1 := Kb2.out k h; omega) | omega), HMrab13.out⟩
        case measure => simp [intOf]; omega
      · have hf1 := RdA_1 Hra8.out hc1 HLA.out
        go_wp2_with fail
        refine (HKN.out _).mono ?_
        rintro e wx ⟨rfl, rfl⟩
        go_wp2_with fail
        refine (WInt_R (n := (kn : Int)) Hra7.out (by omega) (by omega)).mono ?_
        rintro e racw4 ⟨rfl, qwr, hm⟩
        have zrac4 := hm.size
        have Hrac10 := Lib.hid (qwr.widen (R' := (fun k => R1 k ∨ ((raw3.heap.size ≤ k ∧ k < racw4.heap.size)))) (by intro k h; unfold New at h; (try dsimp only at h); (try dsimp only); first | (rcases h with h | h <;> first | exact Or.inl h | (rcases h with h | h <;> first | exact Or.inl h | (right; omega)) | (right; omega)) | omega) (Nat.le_refl _))
        have Hrac11 := Lib.hid (Hra6.out.mod hm (by intro k h1 h2; (try dsimp only at h1 h2); rcases h1 with h1 | h1 <;> first | exact Kd.out k h1 h2 | exact Kd.out k h2 h1 | (have hb1 := Kb1.out k h1; omega) | (have hb1 := Kb1.out k h2; omega) | (have hb1 := Kb2.out k h1; omega) | (have hb1 := Kb2.out k h2; omega) | (have hb1 := Kb2.out k h1; have hb2 := Kb1.out k h2; omega) | omega))
        have Hrac12 := Lib.hid (Hra8.out.mod hm (by intro k h1 h2; (try dsimp only at h1 h2); first | exact Kd.out k h1 h2 | exact Kd.out k h2 h1 | (have hb1 := Kb1.out k h1; omega) | (have hb1 := Kb1.out k h2; omega) | omega))
        have HMrac13 := Lib.hid (HMra9.out.trans hm (by intro k h1 h2; (try dsimp only at h2); first | (have hb1 := Kb1.out k h2; omega) | omega))
        clear hm qwr Hra7 Hra6 Hra8 HMra9
        go_wp2
        go_roundw
        case rel => exact ⟨cs.length + 1, (fun k => R1 k ∨ ((raw3.heap.size ≤ k ∧ k < racw4.heap.size))), (fun k => R2 k ∨ ((raw2.heap.size ≤ k ∧ k < raw3.heap.size))), bs ++ (encN kn), cs ++ [.int .i64 bs.length], by go_num, by omega, by omega, by rw [HSN.out, HA1.out (by first | rfl | trivial), ← Kbs.out], by simp, ats_succ (f := (actB 1099511627776 30)) rfl Kcs.out (by rw [Kbs.out]), Hrac10.out.widen (fun _ h => h) (by omega), Hrac11.out, (by intro k h1 h2; (try dsimp only at h1 h2); rcases h1 with h1 | h1 <;> rcases h2 with h2 | h2 <;> first | exact Kd.out k h1 h2 | exact Kd.out k h2 h1 | (have hb1 := Kb1.out k h1; omega) | (have hb1 := Kb1.out k h2; omega) | (have hb1 := Kb2.out k h1; omega) | (have hb1 := Kb2.out k h2; omega) | (have hb1 := Kb1.out k h1; have hb2 := Kb2.out k h2; omega) | omega), (by intro k h; (try dsimp only at h); rcases h with h | h <;> first | (have hb1 := Kb1.out k h; omega) | omega), (by intro k h; (try dsimp only at h); rcases h with h | h <;> first | (have hb1 := Kb2.out k h; omega) | omega), HMrac13.out⟩
        case measure => simp [intOf]; omega
      · have hf3 := RdA_3 Hra8.out hc1 HLA.out
        go_wp2_with fail
        refine (Cut_R 30 (HAK.out.b.mod HMra9.out (fun _ _ h => h)) (by omega)).mono ?_
        rintro e radw4 ⟨v2, rfl, qcut, hm⟩
        have zrad4 := hm.size
        have Hrad10 := Lib.hid (qcut.widen (R' := (fun k => (raw3.heap.size ≤ k ∧ k < radw4.heap.size))) (by intro k h; unfold New at h; (try dsimp only at h); (try dsimp only); omega) (Nat.le_refl _))
        have Hrad11 := Lib.hid (Hra7.out.mod hm (fun _ _ h => h))
        have Hrad12 := Lib.hid (Hra6.out.mod hm (fun _ _ h => h))
        have Hrad13 := Lib.hid (Hra8.out.mod hm (fun _ _ h => h))
        have HMrad14 := Lib.hid (HMra9.out.trans hm (fun _ _ h => h))
        clear hm qcut Hra7 Hra6 Hra8 HMra9
        go_wp2_with fail
        refine (WRow_R Hrad11.out Hrad10.out.rd (by intro k h1 h2; (try dsimp only at h1 h2); first | exact Kd.out k h1 h2 | exact Kd.out k h2 h1 | (have hb1 := Kb1.out k h1; omega) | (have hb1 := Kb1.out k h2; omega) | omega) (by omega)).mono ?_
        rintro e radw5 ⟨rfl, qwr, hm⟩
        have zrad5 := hm.size
        have Hrad15 := Lib.hid (qwr.widen (R' := (fun k => R1 k ∨ ((radw4.heap.size ≤ k ∧ k < radw5.heap.size)))) (by intro k h; unfold New at h; (try dsimp only at h); (try dsimp only); first | (rcases h with h | h <;> first | exact Or.inl h | (rcases h with h | h <;> first | exact Or.inl h | (right; omega)) | (right; omega)) | omega) (Nat.le_refl _))
        have Hrad16 := Lib.hid (Hrad12.out.mod hm (by intro k h1 h2; (try dsimp only at h1 h2); rcases h1 with h1 | h1 <;> first | exact Kd.out k h1 h2 | exact Kd.out k h2 h1 | (have hb1 := Kb1.out k h1; omega) | (have hb1 := Kb1.out k h2; omega) | (have hb1 := Kb2.out k h1; omega) | (have hb1 := Kb2.out k h2; omega) | (have hb1 := Kb2.out k h1; have hb2 := Kb1.out k h2; omega) | omega))
        have Hrad17 := Lib.hid (Hrad13.out.mod hm (by intro k h1 h2; (try dsimp only at h1 h2); first | exact Kd.out k h1 h2 | exact Kd.out k h2 h1 | (have hb1 := Kb1.out k h1; omega) | (have hb1 := Kb1.out k h2; omega) | omega))
        have Hrad18 := Lib.hid (Hrad10.out.mod hm (by intro k h1 h2; (try dsimp only at h1 h2); first | exact Kd.out k h1 h2 | exact Kd.out k h2 h1 | (have hb1 := Kb1.out k h1; omega) | (have hb1 := Kb1.out k h2; omega) | omega))
        have HMrad19 := Lib.hid (HMrad14.out.trans hm (by intro k h1 h2; (try dsimp only at h2); first | (have hb1 := Kb1.out k h2; omega) | omega))
        clear hm qwr Hrad11 Hrad12 Hrad13 Hrad10 HMrad14
        go_wp2
        go_roundw
        case rel => exact ⟨cs.length + 1, (fun k => R1 k ∨ ((radw4.heap.size ≤ k ∧ k < radw5.heap.size))), (fun k => R2 k ∨ ((raw2.heap.size ≤ k ∧ k < raw3.heap.size))), bs ++ (encN (a.B.take 30).length ++ a.B.take 30), cs ++ [.int .i64 bs.length], by go_num, by omega, by omega, by rw [HSN.out, HA2.out (by first | rfl | trivial), ← Kbs.out], by simp, ats_succ (f := (actB 1099511627776 30)) rfl Kcs.out (by rw [Kbs.out]), Hrad15.out.widen (fun _ h => h) (by omega), Hrad16.out, (by intro k h1 h2; (try dsimp only at h1 h2); rcases h1 with h1 | h1 <;> rcases h2 with h2 | h2 <;> first | exact Kd.out k h1 h2 | exact Kd.out k h2 h1 | (have hb1 := Kb1.out k h1; omega) | (have hb1 := Kb1.out k h2; omega) | (have hb1 := Kb2.out k h1; omega) | (have hb1 := Kb2.out k h2; omega) | (have hb1 := Kb1.out k h1; have hb2 := Kb2.out k h2; omega) | omega), (by intro k h; (try dsimp only at h); rcases h with h | h <;> first | (have hb1 := Kb1.out k h; omega) | omega), (by intro k h; (try dsimp only at h); rcases h with h | h <;> first | (have hb1 := Kb2.out k h; omega) | omega), HMrad19.out⟩
        case measure => simp [intOf]; omega
      · have hch := Lib.hid (RdA_4 Hra8.out hc1 HLA.out HAK.out.h)
        go_wp2_with ((with_reducible show wpList _ _ _ (Oper.mk (some 41) _ _ _ _ _ :: _) _ _); go_must (refine wpList_loadA rfl 39 (.tmp 40) rfl Try.underlying39 rfl (cs := a.H.map bv) (by rw [List.length_map, HAK.out.h]; kernel_rfl) rfl hch.out ?_))
        refine (WHash_R Hra7.out HAK.out.h HAK.out.hb (by omega)).mono ?_
        rintro e raew4 ⟨rfl, qwr, hm⟩
        have zrae4 := hm.size
        have Hrae10 := Lib.hid (qwr.widen (R' := (fun k => R1 k ∨ ((raw3.heap.size ≤ k ∧ k < raew4.heap.size)))) (by intro k h; unfold New at h; (try dsimp only at h); (try dsimp only); first | (rcases h with h | h <;> first | exact Or.inl h | (rcases h with h | h <;> first | exact Or.inl h | (right; omega)) | (right; omega)) | omega) (Nat.le_refl _))
        have Hrae11 := Lib.hid (Hra6.out.mod hm (by intro k h1 h2; (try dsimp only at h1 h2); rcases h1 with h1 | h1 <;> first | exact Kd.out k h1 h2 | exact Kd.out k h2 h1 | (have hb1 := Kb1.out k h1; omega) | (have hb1 := Kb1.out k h2; omega) | (have hb1 := Kb2.out k h1; omega) | (have hb1 := Kb2.out k h2; omega) | (have hb1 := Kb2.out k h1; have hb2 := Kb1.out k h2; omega) | omega))
        have Hrae12 := Lib.hid (Hra8.out.mod hm (by intro k h1 h2; (try dsimp only at h1 h2); first | exact Kd.out k h1 h2 | exact Kd.out k h2 h1 | (have hb1 := Kb1.out k h1; omega) | (have hb1 := Kb1.out k h2; omega) | omega))
        have HMrae13 := Lib.hid (HMra9.out.trans hm (by intro k h1 h2; (try dsimp only at h2); first | (have hb1 := Kb1.out k h2; omega) | omega))
        clear hm qwr Hra7 Hra6 Hra8 HMra9
        go_wp2
        go_roundw
        case rel => exact ⟨cs.length + 1, (fun k => R1 k ∨ ((raw3.heap.size ≤ k ∧ k < raew4.heap.size))), (fun k => R2 k ∨ ((raw2.heap.size ≤ k ∧ k < raw3.heap.size))), bs ++ (a.H), cs ++ [.int .i64 bs.length], by go_num, by omega, by omega, by rw [HSN.out, HA3.out (by first | rfl | trivial), ← Kbs.out], by simp, ats_succ (f := (actB 1099511627776 30)) rfl Kcs.out (by rw [Kbs.out]), Hrae10.out.widen (fun _ h => h) (by omega), Hrae11.out, (by intro k h1 h2; (try dsimp only at h1 h2); rcases h1 with h1 | h1 <;> rcases h2 with h2 | h2 <;> first | exact Kd.out k h1 h2 | exact Kd.out k h2 h1 | (have hb1 := Kb1.out k h1; omega) | (have hb1 := Kb1.out k h2; omega) | (have hb1 := Kb2.out k h1; omega) | (have hb1 := Kb2.out k h2; omega) | (have hb1 := Kb1.out k h1; have hb2 := Kb2.out k h2; omega) | omega), (by intro k h; (try dsimp only at h); rcases h with h | h <;> first | (have hb1 := Kb1.out k h; omega) | omega), (by intro k h; (try dsimp only at h); rcases h with h | h <;> first | (have hb1 := Kb2.out k h; omega) | omega), HMrae13.out⟩
        case measure => simp [intOf]; omega
    all_goals
      go_wp2_with fail
      (try clear hc2); (try clear hc1)
      refine (WBytes_R KW.out (by omega)).mono ?_
      rintro e rxw2 ⟨v1, rfl, qby, hm⟩
      have zrx2 := hm.size
      have Hrx1 := Lib.hid (qby.widen (R' := (fun k => (wo.heap.size ≤ k ∧ k < rxw2.heap.size))) (by intro k h; unfold New at h; (try dsimp only at h); (try dsimp only); omega) (Nat.le_refl _))
      have Hrx2 := Lib.hid (KW.out.mod hm (fun _ _ h => h))
      have Hrx3 := Lib.hid (KO.out.mod hm (fun _ _ h => h))
      have Hrx4 := Lib.hid (HL0.out.mod hm (fun _ _ h => h))
      have HMrx5 := Lib.hid (KM.out.trans hm (fun _ _ h => h))
      clear hm qby KW KO HL0 KM
      go_wp2_with fail
      refine (Cut_R 20 (HTb.out.mod HMrx5.out (fun _ _ h => h)) (by omega)).mono ?_
      rintro e rxw3 ⟨v2, rfl, qct, hm⟩
      have zrx3 := hm.size
      have Hrx6 := Lib.hid (qct.widen (R' := (fun k => (rxw2.heap.size ≤ k ∧ k < rxw3.heap.size))) (by intro k h; unfold New at h; (try dsimp only at h); (try dsimp only); omega) (Nat.le_refl _))
      have Hrx7 := Lib.hid (Hrx3.out.mod hm (fun _ _ h => h))
      have Hrx8 := Lib.hid (Hrx4.out.mod hm (fun _ _ h => h))
      have Hrx9 := Lib.hid (Hrx1.out.mod hm (fun _ _ h => h))
      have HMrx10 := Lib.hid (HMrx5.out.trans hm (fun _ _ h => h))
      clear hm qct Hrx3 Hrx4 Hrx1 HMrx5
      have htl : (ts.take 20).length = min 20 ts.length := List.length_take
      generalize ts.take 20 = tl at *
      have HTL := Lib.hid htl
      clear htl
      go_wp2_with (at_builtin; go_must (refine wpList_appR rfl (.tmp 73) (.tmp 75) rfl rfl Hrx9.out rfl Hrx6.out.rd (by omega) ?_))
      intro ao4 cap4 rxw4 qby hm
      have zrx4 := hm.size
      have Hrx11 := Lib.hid (qby.widen (R' := (fun k => (wo.heap.size ≤ k ∧ k < rxw2.heap.size) ∨ (rxw3.heap.size ≤ k ∧ k < rxw4.heap.size))) (by intro k h; unfold New at h; (try dsimp only at h); (try dsimp only); omega) (Nat.le_refl _))
      have Hrx12 := Lib.hid (Hrx7.out.mod hm (by intro k h1 h2; (try dsimp only at h1 h2); first | exact Kd.out k h1 h2 | exact Kd.out k h2 h1 | (have hb1 := Kb2.out k h1; omega) | (have hb1 := Kb2.out k h2; omega) | omega))
      have Hrx13 := Lib.hid (Hrx8.out.mod hm (by intro k h1 h2; (try dsimp only at h1 h2); omega))
      have Hrx14 := Lib.hid (Hrx6.out.mod hm (by intro k h1 h2; (try dsimp only at h1 h2); omega))
      have HMrx15 := Lib.hid (HMrx10.out.trans hm (by intro k h1 h2; (try dsimp only at h2); omega))
      clear hm qby Hrx9 Hrx7 Hrx8 Hrx6 HMrx10
      have HBYL := Lib.hid Hrx11.out.2.2
      have hsh := Hrx11.out.shape
      go_wp2_with fail
      refine (NewReader_R Hrx11.out.rd (by omega)).mono ?_
      rintro e rxw5 ⟨rp, rfl, qr_, hm⟩
      have zrx5 := hm.size
      have Hrx16 := Lib.hid (qr_.widen (R' := (fun k => (rxw4.heap.size ≤ k ∧ k < rxw5.heap.size))) (by intro k h; unfold New at h; (try dsimp only at h); (try dsimp only); omega))
      have Hrx17 := Lib.hid (Hrx12.out.mod hm (fun _ _ h => h))
      have Hrx18 := Lib.hid (Hrx13.out.mod hm (fun _ _ h => h))
      have Hrx19 := Lib.hid (Hrx11.out.mod hm (fun _ _ h => h))
      have HMrx20 := Lib.hid (HMrx15.out.trans hm (fun _ _ h => h))
      clear hm qr_ Hrx12 Hrx13 Hrx11 HMrx15
      go_wp2
      go_loopw [83] (fun t83 wi => ∃ (j : Nat), t83 = .int .i64 j ∧ j ≤ cs.length ∧ RrR 87 (fun k => (rxw4.heap.size ≤ k ∧ k < rxw5.heap.size)) wi rp (some (((l.take cs.length).drop j).flatMap (actB 1099511627776 30) ++ tl)) ∧ Mod (fun k => (rxw4.heap.size ≤ k ∧ k < rxw5.heap.size)) rxw5 wi) (fun t83 _ => cs.length - (intOf t83).toNat)
      case atStart => exact ⟨0, rfl, by omega, by have := Hrx16.out; rw [Kbs.out] at this; exact this, Mod.refl _ _⟩
      case round =>
        obtain ⟨wi, rfl⟩ : ∃ x, x = wr := ⟨_, rfl⟩
        obtain ⟨j, rfl, hjl, hR, hm⟩ := hrel
        have KR := Lib.hid hR
        have KI := Lib.hid hm
        clear hR
        have z_wi := hm.size
        have Hrxn21 := Lib.hid (Hrx17.out.mod hm (by intro k h1 h2; (try dsimp only at h1 h2); first | exact Kd.out k h1 h2 | exact Kd.out k h2 h1 | (have hb1 := Kb2.out k h1; omega) | (have hb1 := Kb2.out k h2; omega) | omega))
        have Hrxn22 := Lib.hid (Hrx18.out.mod hm (by intro k h1 h2; (try dsimp only at h1 h2); omega))
        have HMrxn23 := Lib.hid (HMrx20.out.trans hm (by intro k h1 h2; (try dsimp only at h2); omega))
        clear hm
        by_cases hcj : j < cs.length
        · have hc1 : j < l.length := by omega
          obtain ⟨gl, ol, hao, -⟩ := Hrxn22.out.at hc1
          first | subst hao | cases hao
          obtain ⟨ga, hga, hac⟩ := Hrxn21.out.at hcj
          subst hga
          have hcell := hac j _ (Kcs.out j hcj)
          clear hac
          have hflat := flat_split (actB 1099511627776 30) l cs.length j (by omega)
          rw [← Kbs.out] at hflat
          generalize ((l.take j).flatMap (actB 1099511627776 30)).length = pj at *
          obtain ⟨q, hq⟩ : ∃ q, q = (((l.take cs.length).drop j).flatMap (actB 1099511627776 30) ++ tl).length := ⟨_, rfl⟩
          have hq' : bs.length + tl.length = pj + q := by rw [hq, List.length_append]; omega
          have hbb := HBYL.out
          rw [List.length_append] at hbb
          have hwr : IntKind.i64.wrap ((bs.length : Int) + tl.length - pj) = q := by rw [IntWalk.i64_in _ (by omega)]; omega
          clear hflat hq' hbb
          go_wp2_with fail
          have Hrxna24 := Lib.hid (Hrxn21.out.mod ((Mod.refl (fun _ => False) wi).drew) (fun _ _ h => h))
          have Hrxna25 := Lib.hid (Hrxn22.out.mod ((Mod.refl (fun _ => False) wi).drew) (fun _ _ h => h))
          have Hrxna26 := Lib.hid (HMrxn23.out.trans ((Mod.refl (fun _ => False) _).drew) (fun _ _ h => h))
          have Hrxna27 := Lib.hid (KR.out.mod ((Mod.refl (fun _ => False) wi).drew) (fun _ _ h => h))
          have HTrxna28 := Lib.hid (KI.out.trans ((Mod.refl (fun _ => False) _).drew) (fun _ _ h => h.elim))
          have hcell2 := Hrxna24.out.at hcj
          have K := Left_R Hrxna27.out
          rw [Option.getD_some, ← hq] at K
          have HKL := Lib.hid K
          have HKO := Lib.hid (OK_R Hrxna27.out)
          clear K hcell2 hq
          go_region_held3 (fun w' => w'.cell? ⟨ga, j, none⟩ = some (.int .i64 pj)) (go_keep)
            (first | (go_at_call 52; go_must (refine (HKL.out).mono ?_); rintro e wx ⟨rfl, rfl⟩) | (go_at_call 47; go_must (refine (HKO.out).mono ?_); rintro e wx ⟨rfl, rfl⟩))
          clear hwr hcell
          have HFD := Lib.hid (flat_dropn (actB 1099511627776 30) l cs.length j hc1 hcj)
          have hak := HOK.out l[j] (List.getElem_mem hc1)
          obtain ⟨a, hla⟩ : ∃ a, l[j] = a := ⟨_, rfl⟩
          rw [hla] at hak HFD
          have HLA := Lib.hid hla
          have HAK := Lib.hid hak
          clear hak hla
          have HA0 := Lib.hid (actB_0 (nm := 1099511627776) (row := 30) (a := a))
          have HA1 := Lib.hid (actB_1 (nm := 1099511627776) (row := 30) (a := a))
          have HA2 := Lib.hid (actB_2 (nm := 1099511627776) (row := 30) (a := a))
          have HA3 := Lib.hid (actB_3 (nm := 1099511627776) (row := 30) (a := a))
          obtain ⟨kn, hkn, hkl⟩ := within_nat a.N 1099511627776 (by omega)
          have HKN := Lib.hid (Within_any a.N 1099511627776 (by omega) (by omega) HAK.out.n)
          rw [hkn] at HKN HA1
          clear hkn
          rw [Int.toNat_natCast] at HA1
          have hm5 := within_range a.Do 4 (by omega)
          have HKW := Lib.hid (Within_any a.Do 4 (by omega) (by omega) HAK.out.d)
          generalize within a.Do 4 = m at *
          have hm : m = 0 ∨ m = 1 ∨ m = 2 ∨ m = 3 := by omega
          clear hm5
          have hc0 := RdA_0 Hrxna25.out hc1 HLA.out
          go_wp2_with fail
          refine (HKW.out _).mono ?_
          rintro e wx ⟨rfl, rfl⟩
          clear hc0
          have HST := Hrxna27.out
          rw [HFD.out, List.append_assoc] at HST
          have HST2 := Lib.hid HST
          clear HST Hrxna27
          rcases hm with rfl | rfl | rfl | rfl
          · have HST3 := HST2.out
            rw [HA0.out (by first | rfl | trivial)] at HST3
            have K := RNum_R HST3
            rw [rNum_enc HAK.out.u] at K
            have HK := Lib.hid K
            clear K HST3
            go_wp2_with fail
            refine (HK.out).mono ?_
            rintro e rxnafw8 ⟨rfl, qr_, hm⟩
            have zrxnaf8 := hm.size
            have Hrxnaf29 := Lib.hid qr_
            have Hrxnaf30 := Lib.hid (Hrxna24.out.mod hm (by intro k h1 h2; (try dsimp only at h1 h2); first | exact Kd.out k h1 h2 | exact Kd.out k h2 h1 | (have hb1 := Kb2.out k h1; omega) | (have hb1 := Kb2.out k h2; omega) | omega))
            have Hrxnaf31 := Lib.hid (Hrxna25.out.mod hm (by intro k h1 h2; (try dsimp only at h1 h2); omega))
            have HMrxnaf32 := Lib.hid (Hrxna26.out.trans hm (by intro k h1 h2; (try dsimp only at h2); omega))
            have HTrxnaf33 := Lib.hid (HTrxna28.out.trans hm (by intro k h1 h2; (try dsimp only at h2); (try dsimp only); omega))
            clear hm qr_ HST2 Hrxna24 Hrxna25 Hrxna26 HTrxna28
            go_wp2
            go_roundw
            case rel => exact ⟨j + 1, by go_num, by omega, Hrxnaf29.out, HTrxnaf33.out⟩
            case measure => simp [intOf]; omega
          · have HST3 := HST2.out
            rw [HA1.out (by first | rfl | trivial)] at HST3
            have K := RInt_R (most := 1099511627776) HST3 (by omega)
            rw [rInt_enc (by unfold U64; omega), if_neg (by omega)] at K
            have HK := Lib.hid K
            clear K HST3
            go_wp2_with fail
            refine (HK.out).mono ?_
            rintro e rxnagw8 ⟨rfl, qr_, hm⟩
            have zrxnag8 := hm.size
            have Hrxnag29 := Lib.hid qr_
            have Hrxnag30 := Lib.hid (Hrxna24.out.mod hm (by intro k h1 h2; (try dsimp only at h1 h2); first | exact Kd.out k h1 h2 | exact Kd.out k h2 h1 | (have hb1 := Kb2.out k h1; omega) | (have hb1 := Kb2.out k h2; omega) | omega))
            have Hrxnag31 := Lib.hid (Hrxna25.out.mod hm (by intro k h1 h2; (try dsimp only at h1 h2); omega))
            have HMrxnag32 := Lib.hid (Hrxna26.out.trans hm (by intro k h1 h2; (try dsimp only at h2); omega))
            have HTrxnag33 := Lib.hid (HTrxna28.out.trans hm (by intro k h1 h2; (try dsimp only at h2); (try dsimp only); omega))
            clear hm qr_ HST2 Hrxna24 Hrxna25 Hrxna26 HTrxna28
            go_wp2
            go_roundw
            case rel => exact ⟨j + 1, by go_num, by omega, Hrxnag29.out, HTrxnag33.out⟩
            case measure => simp [intOf]; omega
          · have HST3 := HST2.out
            rw [HA2.out (by first | rfl | trivial)] at HST3
            have K := RRow_R (most := 30) HST3 (by omega)
            rw [rRow_encA (by simp; unfold U64; omega), if_neg (by simp; omega)] at K
            have HK := Lib.hid K
            clear K HST3
            go_wp2_with fail
            refine (HK.out).mono ?_
            rintro e rxnahw8 ⟨v7, rfl, qrw, qr_, hm⟩
            have zrxnah8 := hm.size
            have Hrxnah29 := Lib.hid (qrw.widen (R' := (fun k => ((wi).drew.heap.size ≤ k ∧ k < rxnahw8.heap.size))) (by intro k h; unfold New at h; (try dsimp only at h); (try dsimp only); omega) (Nat.le_refl _))
            have Hrxnah30 := Lib.hid qr_
            have Hrxnah31 := Lib.hid (Hrxna24.out.mod hm (by intro k h1 h2; (try dsimp only at h1 h2); first | exact Kd.out k h1 h2 | exact Kd.out k h2 h1 | (have hb1 := Kb2.out k h1; omega) | (have hb1 := Kb2.out k h2; omega) | omega))
            have Hrxnah32 := Lib.hid (Hrxna25.out.mod hm (by intro k h1 h2; (try dsimp only at h1 h2); omega))
            have HMrxnah33 := Lib.hid (Hrxna26.out.trans hm (by intro k h1 h2; (try dsimp only at h2); omega))
            have HTrxnah34 := Lib.hid (HTrxna28.out.trans hm (by intro k h1 h2; (try dsimp only at h2); (try dsimp only); omega))
            clear hm qrw qr_ HST2 Hrxna24 Hrxna25 Hrxna26 HTrxna28
            go_wp2
            go_roundw
            case rel => exact ⟨j + 1, by go_num, by omega, Hrxnah30.out, HTrxnah34.out⟩
            case measure => simp [intOf]; omega
          · have HST3 := HST2.out
            rw [HA3.out (by first | rfl | trivial)] at HST3
            have K := RHash_R HST3
            rw [rHash_app HAK.out.h] at K
            have HK := Lib.hid K
            clear K HST3
            go_wp2_with fail
            refine (HK.out).mono ?_
            rintro e rxnaiw8 ⟨rfl, qr_, hm⟩
            have zrxnai8 := hm.size
            have Hrxnai29 := Lib.hid qr_
            have Hrxnai30 := Lib.hid (Hrxna24.out.mod hm (by intro k h1 h2; (try dsimp only at h1 h2); first | exact Kd.out k h1 h2 | exact Kd.out k h2 h1 | (have hb1 := Kb2.out k h1; omega) | (have hb1 := Kb2.out k h2; omega) | omega))
            have Hrxnai31 := Lib.hid (Hrxna25.out.mod hm (by intro k h1 h2; (try dsimp only at h1 h2); omega))
            have HMrxnai32 := Lib.hid (Hrxna26.out.trans hm (by intro k h1 h2; (try dsimp only at h2); omega))
            have HTrxnai33 := Lib.hid (HTrxna28.out.trans hm (by intro k h1 h2; (try dsimp only at h2); (try dsimp only); omega))
            clear hm qr_ HST2 Hrxna24 Hrxna25 Hrxna26 HTrxna28
            go_wp2
            go_roundw
            case rel => exact ⟨j + 1, by go_num, by omega, Hrxnai29.out, HTrxnai33.out⟩
            case measure => simp [intOf]; omega
        · obtain rfl : j = cs.length := by omega
          have HST := KR.out
          rw [List.drop_of_length_le (by simp; omega), List.flatMap_nil, List.nil_append] at HST
          have HST2 := Lib.hid HST
          clear HST KR
          have K := Left_R HST2.out
          rw [Option.getD_some, HTL.out] at K
          by_cases h20 : ts.length ≤ 20
          · rw [Nat.min_eq_right (by omega)] at K
            have HK := Lib.hid K
            clear K
            go_wp2_with fail
            refine (HK.out).mono ?_
            rintro e wx ⟨rfl, rfl⟩
            go_wp2_with fail
            refine (OK_R HST2.out).mono ?_
            rintro e wx ⟨rfl, rfl⟩
            go_wp2_with fail
            refine (wakes_R _).mono ?_
            rintro e rxnqyw7 ⟨rfl, hm⟩
            have zrxnqy7 := hm.size
            have Hrxnqy24 := Lib.hid (Hrxn21.out.mod hm (fun _ _ h => h))
            have Hrxnqy25 := Lib.hid (Hrxn22.out.mod hm (fun _ _ h => h))
            have Hrxnqy26 := Lib.hid (HST2.out.mod hm (fun _ _ h => h))
            have HMrxnqy27 := Lib.hid (HMrxn23.out.trans hm (fun _ _ h => h))
            have HTrxnqy28 := Lib.hid (KI.out.trans hm (fun _ _ h => h.elim))
            clear hm Hrxn21 Hrxn22 HST2 HMrxn23 KI
            go_wp2
            go_ret
            exact ⟨rfl, HMrxnqy27.out⟩
          · rw [Nat.min_eq_left (by omega)] at K
            have HK := Lib.hid K
            clear K
            go_wp2_with fail
            refine (HK.out).mono ?_
            rintro e wx ⟨rfl, rfl⟩
            go_wp2_with fail
            refine (OK_R HST2.out).mono ?_
            rintro e wx ⟨rfl, rfl⟩
            go_wp2_with fail
            refine (wakes_R _).mono ?_
            rintro e rxnqzw7 ⟨rfl, hm⟩
            have zrxnqz7 := hm.size
            have Hrxnqz24 := Lib.hid (Hrxn21.out.mod hm (fun _ _ h => h))
            have Hrxnqz25 := Lib.hid (Hrxn22.out.mod hm (fun _ _ h => h))
            have Hrxnqz26 := Lib.hid (HST2.out.mod hm (fun _ _ h => h))
            have HMrxnqz27 := Lib.hid (HMrxn23.out.trans hm (fun _ _ h => h))
            have HTrxnqz28 := Lib.hid (KI.out.trans hm (fun _ _ h => h.elim))
            clear hm Hrxn21 Hrxn22 HST2 HMrxn23 KI
            go_wp2
            go_ret
            exact ⟨rfl, HMrxnqz27.out⟩
end Go.Proofs.Ytceojplopbjokaa
