/- ShaSums: the walk. -/
import Derived.Test.YtfgepphankfbfaaSha6
import Derived.Test.YtfgepphankfbfaaRowsO
import Derived.Test.YtfgepphankfbfaaLoc
import Derived.Test.YtfgepphankfbfaaNums
set_option maxRecDepth 100000
set_option linter.unusedVariables false
namespace Go.Proofs.Ytfgepphankfbfaa
open Go Go.RowKit Go.Gv

theorem lent_rd {R : Nat → Prop} {N : Nat} {w : World} {v : Value} {bs : List Int} (h : LentR R N w v bs) : RdB w v bs ∧ True := by
  obtain ⟨⟨g, rfl, hc⟩, -, hb, hl, hN⟩ := h
  refine ⟨⟨hb, Rd.mk (by omega) (by rw [maxLen_val]; omega) (by simp) fun j y hy => ?_⟩, trivial⟩
  rw [Nat.zero_add, Cs.cell hc]
  have hj : j < bs.length := by have := (List.getElem?_eq_some_iff.1 hy).1; simpa using this
  simp only [List.getElem?_toArray, lendc, List.map_append]
  rw [List.getElem?_append_left (by simpa using hj)]
  exact hy
set_option maxHeartbeats 4000000 in
theorem ShaSums_walk (bs : List Int) (l : List Row01) (n : Int) (vb vl : Value) (w : World) (hb : RdR (fun k => k < w.heap.size) bs.length w vb bs) (hl : RdL (fun k => k < w.heap.size) w vl l) (hok : ∀ a ∈ l, a.Ok w) (hn : -9223372036854775808 ≤ n ∧ n ≤ 9223372036854775807) :
    Calls Try.prog 12 #[vb, vl, .int .i64 n] w fun e w' => e = .returned (.bool true) ∧ Mod (fun _ => False) w w' := by
  obtain ⟨ao, cap, rfl, hlm⟩ := hl.shape
  rw [maxLen_val] at hlm
  have HB := Lib.hid hb
  have HL := Lib.hid hl
  have HOK := Lib.hid hok
  have HWI := Lib.hid (fun w => Within_any n 200 (by omega) (by omega) hn w)
  obtain ⟨kn, hkn, hkl⟩ := within_nat n 200 (by omega)
  rw [hkn] at HWI
  clear hb hl hok hn hkn
  go_enter Try.func12, Try.ntmps12
  go_wp2_with fail
  refine (Cut_R 300 HB.out (by decide)).mono ?_
  rintro e w1 ⟨v1, rfl, ho1, hm1⟩
  have KC1 := Lib.hid ho1
  have KM1 := Lib.hid hm1
  have z1 := hm1.size
  clear ho1 hm1
  go_upto_if 14 with (fail)
  go_cut [0] from 14 (fun t0 w' => ∃ cs : List Int, RdR (fun _ => True) 300 w' t0 cs ∧ Mod (fun _ => False) w w')
  case first =>
    cases ht : (n.tmod 3 == 0) with
    | false => clear ht; go_wp2_with fail; go_meet; case rel => exact ⟨_, KC1.out.rd.widen (fun _ _ => trivial) (Nat.le_refl _), KM1.out⟩
    | true =>
      clear ht
      have HKN := Lib.hid (show kn ≤ Room by unfold Room; omega)
      go_wp2_with fail
      refine (HWI.out w1).mono ?_
      rintro e w1' ⟨rfl, rfl⟩
      go_wp2_with (at_make; go_must (refine wpList_makeB rfl (.tmp 16) (.tmp 16) rfl kn kn rfl rfl rfl rfl (Nat.le_refl _) HKN.out ?_))
      go_meet
      case rel =>
        refine ⟨List.replicate kn 0, ?_, KM1.out.alloc _⟩
        refine ⟨⟨fun y hy => by simp at hy; omega, ?_⟩, (fun _ _ _ => trivial), by simp; omega⟩
        rw [List.length_replicate]
        refine Rd.mk (Nat.le_refl _) (by rw [maxLen_val]; omega) (by simp) fun j y hy => ?_
        rw [Nat.zero_add, (Cs.new w1 _ _).cell, ← Array.getElem?_toList]
        simpa using hy
  case rest =>
    obtain ⟨w2, rfl⟩ : ∃ x, x = wc := ⟨_, rfl⟩
    obtain ⟨cs, hc, hm⟩ := hcut
    have KC := Lib.hid hc
    have KM2 := Lib.hid hm
    have HCL := Lib.hid (show cs.length ≤ 900000 from by have := hc.2.2; omega)
    have HCB := Lib.hid hc.1.block_lt
    have z2 := hm.size
    clear hc hm KC1 KM1
    go_wp2
    go_loopw [7, 8] (fun t7 t8 wr => ∃ rs : List (Value × List Int), t8 = .int .i64 rs.length ∧ rs.length ≤ 6 ∧ rs.length ≤ l.length ∧ RowsO w2.heap.size rs.length wr t7 rs ∧ Mod (fun k => w2.heap.size ≤ k) w2 wr) (fun _ t8 _ => l.length - (intOf t8).toNat)
    case atStart => exact ⟨[], rfl, by simp, by simp, RowsO.nil _ _, Mod.refl _ _⟩
    case round =>
      obtain ⟨wo, rfl⟩ : ∃ x, x = wr := ⟨_, rfl⟩
      obtain ⟨rs, rfl, hi6, hil, hR, hm⟩ := hrel
      have KR := Lib.hid hR
      have KM := Lib.hid hm
      have KMW := Lib.hid (show Mod (fun k => w.heap.size ≤ k) w wo from (KM2.out.mono (S' := fun k => w.heap.size ≤ k) (fun _ _ h => h.elim)).trans hm (fun k _ h => Nat.le_trans z2 h))
      have zo := hm.size
      clear hR hm
      by_cases hc1 : rs.length < l.length
      by_cases hc2 : rs.length < 6
      · obtain ⟨gl, ol, rfl, hel⟩ := HL.out.at hc1
        have hak := HOK.out l[rs.length] (List.getElem_mem hc1)
        generalize l[rs.length] = a at *
        have hcell : wo.cell? ⟨gl, ol + rs.length, none⟩ = some a.V := KMW.out.cell (by simpa using hel 0 _ rfl) (by
          have := World.block_lt_of_cell? _ _ (hel 0 _ rfl)
          show ¬ w.heap.size ≤ gl
          exact Nat.not_le.2 this)
        have HAK := Lib.hid hak
        clear hak hel
        go_wp2_with fail
        refine (Cut_R 80 (HAK.out.mod KMW.out (fun k h1 h2 => by omega)) (by omega)).mono ?_
        rintro e w4 ⟨v4, rfl, hu, hm4⟩
        have KU := Lib.hid (KR.out.beside hu (by omega) (by decide))
        have KR4 := Lib.hid (KR.out.still hm4)
        have KM4 := Lib.hid (KM.out.trans hm4 (fun _ _ h => h.elim))
        have z4 := hm4.size
        clear hu hm4 KR KM KMW hcell
        obtain ⟨cb, hcb⟩ : ∃ cb, cb = List.take 80 a.B := ⟨_, rfl⟩
        rw [← hcb] at KU
        clear hcb
        obtain ⟨ac, cc, rfl⟩ := KU.out.shape
        obtain ⟨a7, c7, hv7⟩ := KR4.out.shape
        subst hv7
        go_wp2_with (at_builtin; go_must (refine wpList_appV1 rfl (.tmp 28) (.tmp 34) 91 22 (.slice none 0 0) 24 rfl Try.underlying91 (by kernel_rfl) rfl rfl rfl KR4.out.o rfl rfl (by omega) (by omega) ?_))
        intro ao3 cap3 w5 ho5 hm5
        have KR5 := Lib.hid (KR4.out.app KU.out (by omega) ho5 hm5)
        have KM5 := Lib.hid (show Mod (fun k => w2.heap.size ≤ k) w2 w5 from KM4.out.trans hm5 (fun k _ h => KR4.out.b k h))
        clear ho5 hm5 KR4 KM4 KU
        try rw [List.length_map]
        go_wp2
        go_roundw
        case rel => exact ⟨rs ++ [(_, cb)], by simp, by simp; omega, by simp; omega, by have := KR5.out; simpa using this, KM5.out⟩
        case measure => simp [intOf]; omega
      all_goals
        have KC3 := Lib.hid (show RdR (fun _ => True) 300 wo u0 cs from ⟨KC.out.1.mod KM.out (fun h0 g hg hS => by have := HCB.out h0 g hg; omega), (fun _ _ _ => trivial), KC.out.2.2⟩)
        have KMF := Lib.hid (KM2.out.trans KM.out (fun k h1 h2 => by omega))
        have HR8 := Lib.hid (show rs.length ≤ 8 by omega)
        go_wp2_with fail
        refine (Lend_R (R := fun _ => True) (N := 300) KC3.out (by decide)).mono ?_
        rintro e w8 ⟨vx, rfl, hL8, hm8⟩
        have KL := Lib.hid hL8
        have KC4 := Lib.hid (KC3.out.mod hm8 (fun _ _ h => h))
        have KR8 := Lib.hid (KR.out.still hm8)
        have KM8 := Lib.hid (KMF.out.trans hm8 (fun _ _ h => h))
        clear hL8 hm8 KC KC3 KR KM KMW KMF
        have KC := Lib.hid KC4.out
        have KR := Lib.hid KR8.out
        clear KC4 KR8
        go_upto_region 10 with (fail)
        generalize ha0 : Act.mk _ _ = a0
        have oe0 : a0.eval (.tmp 0) = u0 := by rw [← ha0]; rfl
        have oe7 : a0.eval (.tmp 7) = u7 := by rw [← ha0]; rfl
        have oe9 : a0.eval (.tmp 9) = vx := by rw [← ha0]; rfl
        have hsz0 : a0.tmps.size = 58 := by rw [← ha0]; rfl
        have HA0 := Lib.hid ha0
        clear ha0
        refine wp_region_G 58 hsz0 (by kernel_rfl) (by kernel_rfl) [38, 39, 40, 41, 42, 43, 44, 45, 46, 47, 48, 49, 50, 51, 52, 53, 54, 55, 56, 57, 6] (by kernel_rfl) (by decide) (fun _ => False) (fun _ _ => False) (fun _ _ h => h) Still (fun _ _ _ h => h) (fun _ _ _ hm h => hm.trans h (fun _ _ h => h.elim)) [gi (vx), gi (hv (shaF cs)), gi (u0), gi (hv (shaF cs)), gi (.bool true), gi (.bool true), gi (vx), gi (u0), gi (.bool true), gi (.bool true), gi (.bool true), gi (u7), gi (hv (shaF (rowsT rs))), gi (u7), gi (hv (shaF (rowsT rs))), gi (.bool true), gi (.bool true), gi (.bool true), gi (.bool true), gi (.bool true), gi (.bool true)] ⟨gi_stable, gi_stable, gi_stable, gi_stable, gi_stable, gi_stable, gi_stable, gi_stable, gi_stable, gi_stable, gi_stable, gi_stable, gi_stable, gi_stable, gi_stable, gi_stable, gi_stable, gi_stable, gi_stable, gi_stable, gi_stable, trivial⟩ [] (by kernel_rfl) (by decide) (by kernel_rfl) (fun _ _ => True) (fun _ _ _ _ _ => trivial) trivial ⟨?_, ?_, ?_, ?_, ?_, ?_, ?_, ?_, ?_, ?_, ?_, ?_, ?_, ?_, ?_, ?_, ?_, ?_, ?_, ?_, ?_, trivial⟩ ?_
        · intro tr act w' hm hout hsz hd hG hk hub
          exact jg_run (by rfl) rfl (wanted_none rfl) (ex_move rfl ((hout 9 (by decide)).trans oe9)) (Mod.refl _ _) rfl
        · intro tr act w' hm hout hsz hd hG hk hub
          have h0 := hd ⟨0, .data⟩ (by simp) rfl _ rfl
          refine jg_call (args := #[vx]) (by rfl) rfl (wanted_none rfl) (by rw [ex_callF rfl Try.func16 (by kernel_rfl) (by kernel_rfl)]; exact congrArg (fun z => Result.ok (Next.enter _ z) _) (by simp only [List.map_toArray, List.map_cons, List.map_nil, show act.eval (.tmp 38) = _ from h0]; try rfl)) (Sum_any _ cs _ ((lent_rd (KL.out.mod hm (fun _ _ h => h))).1) HCL.out) ?_
          rintro e w2 ⟨rfl, hm2⟩
          exact ⟨_, rfl, hm2, rfl⟩
        · intro tr act w' hm hout hsz hd hG hk hub
          exact jg_run (by rfl) rfl (wanted_none rfl) (ex_move rfl ((hout 0 (by decide)).trans oe0)) (Mod.refl _ _) rfl
        · intro tr act w' hm hout hsz hd hG hk hub
          have h2 := hd ⟨2, .data⟩ (by simp) rfl _ rfl
          refine jg_call (args := #[u0]) (by rfl) rfl (wanted_none rfl) (by rw [ex_callF rfl Try.func17 (by kernel_rfl) (by kernel_rfl)]; exact congrArg (fun z => Result.ok (Next.enter _ z) _) (by simp only [List.map_toArray, List.map_cons, List.map_nil, show act.eval (.tmp 40) = _ from h2]; try rfl)) (RefSum_any _ cs _ (KC.out.mod hm (fun _ _ h => h)).1 HCL.out) ?_
          rintro e w2 ⟨rfl, hm2⟩
          exact ⟨_, rfl, hm2, rfl⟩
        · intro tr act w' hm hout hsz hd hG hk hub
          have h1 := hd ⟨1, .data⟩ (by simp) rfl _ rfl
          have h3 := hd ⟨3, .data⟩ (by simp) rfl _ rfl
          exact jg_run (by rfl) rfl (wanted_none rfl) (ex_bin rfl h1 h3 (hv_guard2 _ _ _ _ _ _) (hv_eql (shaF_len _) (shaF_len _) _)) (Mod.refl _ _) (congrArg Value.bool (decide_eq_true rfl))
        · intro tr act w' hm hout hsz hd hG hk hub
          have h4 := hd ⟨4, .data⟩ (by simp) rfl _ rfl
          exact jg_run (by rfl) rfl (wanted_none rfl) (ex_move rfl h4) (Mod.refl _ _) rfl
        · intro tr act w' hm hout hsz hd hG hk hub
          have h5 := hd ⟨5, .guard⟩ (by simp) rfl _ rfl
          exact jg_run (by rfl) rfl ((wanted_of rfl rfl (hsz 43 (by decide)) h5).trans rfl) (ex_move rfl ((hout 9 (by decide)).trans oe9)) (Mod.refl _ _) rfl
        · intro tr act w' hm hout hsz hd hG hk hub
          have h5 := hd ⟨5, .guard⟩ (by simp) rfl _ rfl
          exact jg_run (by rfl) rfl ((wanted_of rfl rfl (hsz 43 (by decide)) h5).trans rfl) (ex_move rfl ((hout 0 (by decide)).trans oe0)) (Mod.refl _ _) rfl
        · intro tr act w' hm hout hsz hd hG hk hub
          have h5 := hd ⟨5, .guard⟩ (by simp) rfl _ rfl
          have h6 := hd ⟨6, .data⟩ (by simp) rfl _ rfl
          have h7 := hd ⟨7, .data⟩ (by simp) rfl _ rfl
          refine jg_call (args := #[vx, u0]) (by rfl) rfl ((wanted_of rfl rfl (hsz 43 (by decide)) h5).trans rfl) (by rw [ex_callF rfl Try.func39 (by kernel_rfl) (by kernel_rfl)]; exact congrArg (fun z => Result.ok (Next.enter _ z) _) (by simp only [List.map_toArray, List.map_cons, List.map_nil, show act.eval (.tmp 44) = _ from h6, show act.eval (.tmp 45) = _ from h7]; try rfl)) (Intact_R (KL.out.mod hm (fun _ _ h => h)) (KC.out.mod hm (fun _ _ h => h))) ?_
          rintro e w2 ⟨rfl, hm2⟩
          exact ⟨_, rfl, hm2, rfl⟩
        · intro tr act w' hm hout hsz hd hG hk hub
          have h5 := hd ⟨5, .data⟩ (by simp) rfl _ rfl
          have h8 := hd ⟨8, .data⟩ (by simp) rfl _ rfl
          exact jg_run (by rfl) rfl (wanted_none rfl) (ex_pick rfl h5 h8 rfl) (Mod.refl _ _) rfl
        · intro tr act w' hm hout hsz hd hG hk hub
          have h9 := hd ⟨9, .data⟩ (by simp) rfl _ rfl
          exact jg_run (by rfl) rfl (wanted_none rfl) (ex_move rfl h9) (Mod.refl _ _) rfl
        · intro tr act w' hm hout hsz hd hG hk hub
          have h10 := hd ⟨10, .guard⟩ (by simp) rfl _ rfl
          exact jg_run (by rfl) rfl ((wanted_of rfl rfl (hsz 48 (by decide)) h10).trans rfl) (ex_move rfl ((hout 7 (by decide)).trans oe7)) (Mod.refl _ _) rfl
        · intro tr act w' hm hout hsz hd hG hk hub
          have h10 := hd ⟨10, .guard⟩ (by simp) rfl _ rfl
          have h11 := hd ⟨11, .data⟩ (by simp) rfl _ rfl
          refine jg_call (args := #[u7]) (by rfl) rfl ((wanted_of rfl rfl (hsz 48 (by decide)) h10).trans rfl) (by rw [ex_callF rfl Try.func35 (by kernel_rfl) (by kernel_rfl)]; exact congrArg (fun z => Result.ok (Next.enter _ z) _) (by simp only [List.map_toArray, List.map_cons, List.map_nil, show act.eval (.tmp 49) = _ from h11]; try rfl)) (ShaRowsF_any _ rs _ (KR.out.rows.still hm) HR8.out) ?_
          rintro e w2 ⟨rfl, hm2⟩
          exact ⟨_, rfl, hm2, rfl⟩
        · intro tr act w' hm hout hsz hd hG hk hub
          have h10 := hd ⟨10, .guard⟩ (by simp) rfl _ rfl
          exact jg_run (by rfl) rfl ((wanted_of rfl rfl (hsz 48 (by decide)) h10).trans rfl) (ex_move rfl ((hout 7 (by decide)).trans oe7)) (Mod.refl _ _) rfl
        · intro tr act w' hm hout hsz hd hG hk hub
          have h10 := hd ⟨10, .guard⟩ (by simp) rfl _ rfl
          have h13 := hd ⟨13, .data⟩ (by simp) rfl _ rfl
          refine jg_call (args := #[u7]) (by rfl) rfl ((wanted_of rfl rfl (hsz 48 (by decide)) h10).trans rfl) (by rw [ex_callF rfl Try.func40 (by kernel_rfl) (by kernel_rfl)]; exact congrArg (fun z => Result.ok (Next.enter _ z) _) (by simp only [List.map_toArray, List.map_cons, List.map_nil, show act.eval (.tmp 51) = _ from h13]; try rfl)) (RefRowsF_any _ rs _ (KR.out.rows.still hm) HR8.out) ?_
          rintro e w2 ⟨rfl, hm2⟩
          exact ⟨_, rfl, hm2, rfl⟩
        · intro tr act w' hm hout hsz hd hG hk hub
          have h10 := hd ⟨10, .guard⟩ (by simp) rfl _ rfl
          have h12 := hd ⟨12, .data⟩ (by simp) rfl _ rfl
          have h14 := hd ⟨14, .data⟩ (by simp) rfl _ rfl
          exact jg_run (by rfl) rfl ((wanted_of rfl rfl (hsz 48 (by decide)) h10).trans rfl) (ex_bin rfl h12 h14 (hv_guard2 _ _ _ _ _ _) (hv_eql (shaF_len _) (shaF_len _) _)) (Mod.refl _ _) (congrArg Value.bool (decide_eq_true rfl))
        · intro tr act w' hm hout hsz hd hG hk hub
          have h10 := hd ⟨10, .data⟩ (by simp) rfl _ rfl
          have h15 := hd ⟨15, .data⟩ (by simp) rfl _ rfl
          exact jg_run (by rfl) rfl (wanted_none rfl) (ex_pick rfl h10 h15 rfl) (Mod.refl _ _) rfl
        · intro tr act w' hm hout hsz hd hG hk hub
          have h16 := hd ⟨16, .data⟩ (by simp) rfl _ rfl
          exact jg_run (by rfl) rfl (wanted_none rfl) (ex_move rfl h16) (Mod.refl _ _) rfl
        · intro tr act w' hm hout hsz hd hG hk hub
          have h17 := hd ⟨17, .guard⟩ (by simp) rfl _ rfl
          refine jg_call (args := #[]) (by rfl) rfl ((wanted_of rfl rfl (hsz 55 (by decide)) h17).trans rfl) (by rw [ex_callF rfl Try.func19 (by kernel_rfl) (by kernel_rfl)]; simp) (wakes02 _) ?_
          rintro e w2 ⟨rfl, hm2⟩
          exact ⟨_, rfl, hm2, rfl⟩
        · intro tr act w' hm hout hsz hd hG hk hub
          have h17 := hd ⟨17, .data⟩ (by simp) rfl _ rfl
          have h18 := hd ⟨18, .data⟩ (by simp) rfl _ rfl
          exact jg_run (by rfl) rfl (wanted_none rfl) (ex_pick rfl h17 h18 rfl) (Mod.refl _ _) rfl
        · intro tr act w' hm hout hsz hd hG hk hub
          have h19 := hd ⟨19, .data⟩ (by simp) rfl _ rfl
          exact jg_run (by rfl) rfl (wanted_none rfl) (ex_assign rfl h19) (Mod.refl _ _) rfl
        intro vs tr w9 hl htl hm hG hV
        obtain ⟨v0, vs0, rfl, hl0⟩ := list_cons hl
        obtain ⟨v1, vs1, rfl, hl1⟩ := list_cons hl0
        obtain ⟨v2, vs2, rfl, hl2⟩ := list_cons hl1
        obtain ⟨v3, vs3, rfl, hl3⟩ := list_cons hl2
        obtain ⟨v4, vs4, rfl, hl4⟩ := list_cons hl3
        obtain ⟨v5, vs5, rfl, hl5⟩ := list_cons hl4
        obtain ⟨v6, vs6, rfl, hl6⟩ := list_cons hl5
        obtain ⟨v7, vs7, rfl, hl7⟩ := list_cons hl6
        obtain ⟨v8, vs8, rfl, hl8⟩ := list_cons hl7
        obtain ⟨v9, vs9, rfl, hl9⟩ := list_cons hl8
        obtain ⟨v10, vs10, rfl, hl10⟩ := list_cons hl9
        obtain ⟨v11, vs11, rfl, hl11⟩ := list_cons hl10
        obtain ⟨v12, vs12, rfl, hl12⟩ := list_cons hl11
        obtain ⟨v13, vs13, rfl, hl13⟩ := list_cons hl12
        obtain ⟨v14, vs14, rfl, hl14⟩ := list_cons hl13
        obtain ⟨v15, vs15, rfl, hl15⟩ := list_cons hl14
        obtain ⟨v16, vs16, rfl, hl16⟩ := list_cons hl15
        obtain ⟨v17, vs17, rfl, hl17⟩ := list_cons hl16
        obtain ⟨v18, vs18, rfl, hl18⟩ := list_cons hl17
        obtain ⟨v19, vs19, rfl, hl19⟩ := list_cons hl18
        obtain ⟨v20, vs20, rfl, hl20⟩ := list_cons hl19
        obtain rfl := list_nil hl20
        clear hl hl0 hl1 hl2 hl3 hl4 hl5 hl6 hl7 hl8 hl9 hl10 hl11 hl12 hl13 hl14 hl15 hl16 hl17 hl18 hl19 hl20
        obtain rfl : v20 = .bool true := hV 20 _ rfl
        have ha0 := HA0.out
        subst ha0
        clear HA0 hV hsz0 oe0 oe7 oe9
        simp only [putAll, Act.put, List.setIfInBounds_toArray, List.set_cons_zero, List.set_cons_succ]
        have KM9 := Lib.hid (KM8.out.trans hm (fun _ _ h => h))
        clear hm hG
        go_wp2
        go_ret
        exact ⟨rfl, KM9.out⟩
end Go.Proofs.Ytfgepphankfbfaa
