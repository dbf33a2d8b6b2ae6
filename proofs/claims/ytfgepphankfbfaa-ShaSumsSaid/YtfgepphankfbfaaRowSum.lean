/- sha.Rows, gavelref01.Rows: a hash over rows. -/
import Derived.Test.YtfgepphankfbfaaSha8
import Derived.Test.YtfgepphankfbfaaBrows
import Derived.Test.YtfgepphankfbfaaRef1
import Derived.Test.YtfgepphankfbfaaJoin
set_option maxRecDepth 100000
set_option linter.unusedVariables false
namespace Go.Proofs.Ytfgepphankfbfaa
open Go Go.RowKit Go.Gv

/-- what a hash over rows is of -/
def rowsT (rs : List (Value × List Int)) : List Int := encN rs.length ++ rowsB rs
theorem rowsB_take (rs : List (Value × List Int)) (i : Nat) (h : i < rs.length) : rowsB (rs.take (i + 1)) = rowsB (rs.take i) ++ (encN rs[i].2.length ++ rs[i].2) := by
  unfold rowsB
  rw [List.take_succ_eq_append_getElem h, List.flatMap_append]
  simp
theorem rowsB_all (rs : List (Value × List Int)) : rowsB (rs.take rs.length) = rowsB rs := by rw [List.take_length]
theorem RdF.old {R : Nat → Prop} {w : World} {rs : List (Value × List Int)} (h : RdF R w rs) : RdF (fun k => k < w.heap.size) w rs := fun p hp => ⟨(h p hp).1, fun h0 => (h p hp).1.block_lt h0, (h p hp).2.2⟩
/-- rows: the outer list, and each row where it lies -/
structure RdRows (w : World) (v : Value) (rs : List (Value × List Int)) : Prop where
  o : Rd 1 w v rs.length (rs.map (·.1))
  f : RdF (fun k => k < w.heap.size) w rs
theorem RdRows.mod {w w' : World} {v : Value} {rs : List (Value × List Int)} {B : Nat} (h : RdRows w v rs) (hm : Mod (fun k => B ≤ k) w w') (hB : w.heap.size ≤ B) : RdRows w' v rs := by
  have h2 := h.f.mod hm (fun k h1 h2 => by omega)
  exact ⟨h.o.mod hm (fun h0 g hg hS => by have := h.o.old (by decide) h0 g hg; omega), h2.widen (fun k hk => Nat.lt_of_lt_of_le hk hm.size)⟩
theorem RdRows.still {w w' : World} {v : Value} {rs : List (Value × List Int)} (h : RdRows w v rs) (hm : Mod (fun _ => False) w w') : RdRows w' v rs := h.mod (B := w.heap.size) (hm.mono (fun _ _ h => h.elim)) (Nat.le_refl _)
theorem RdRows.shape {w : World} {v : Value} {rs : List (Value × List Int)} (h : RdRows w v rs) : ∃ ao cap, v = .slice ao rs.length cap := by
  obtain ⟨_, ao, cap, e, _⟩ := h.o
  exact ⟨ao, cap, e⟩
theorem RdRows.at {w : World} {ao : Option Addr} {n cap : Nat} {rs : List (Value × List Int)} (h : RdRows w (.slice ao n cap) rs) {i : Nat} (hi : i < rs.length) :
    ∃ g o, ao = some ⟨g, o, none⟩ ∧ g < w.heap.size ∧ w.cell? ⟨g, o + i, none⟩ = some rs[i].1 := by
  rcases h.o.form (by decide) with ⟨h0, _⟩ | ⟨g, o, cap', h0, hv, h1, h2, hl, hc⟩
  · omega
  · simp only [Value.slice.injEq] at hv
    obtain ⟨rfl, rfl, rfl⟩ := hv
    exact ⟨g, o, rfl, h.o.old (by decide) h0 g rfl, hc i _ (by simp [List.getElem?_eq_getElem hi])⟩

theorem encN_small (n : Nat) (h : n ≤ 1000000) : (encN n).length ≤ 10 := (encN_len10 (by unfold U64; omega)).2
theorem rowsB_len {R : Nat → Prop} {w : World} : ∀ {rs : List (Value × List Int)}, RdF R w rs → (rowsB rs).length ≤ 210 * rs.length
  | [], _ => by simp [rowsB]
  | p :: rs, h => by
    have h1 := rowsB_len (fun q hq => h q (List.mem_cons_of_mem _ hq) : RdF R w rs)
    have h2 := (h p (List.mem_cons_self)).2.2
    have h3 := encN_small p.2.length (by omega)
    unfold rowsB at h1 ⊢
    rw [List.flatMap_cons, List.length_append, List.length_append, List.length_cons]
    omega
theorem rowsT_len {R : Nat → Prop} {w : World} {rs : List (Value × List Int)} (h : RdF R w rs) (hn : rs.length ≤ 8) : (rowsT rs).length ≤ 900000 := by
  have h1 := rowsB_len h
  have h2 := encN_small rs.length (by omega)
  unfold rowsT
  rw [List.length_append]
  omega

set_option maxHeartbeats 4000000 in
theorem ShaRowsF_any (v : Value) (rs : List (Value × List Int)) (w : World) (h : RdRows w v rs) (hn : rs.length ≤ 8) :
    Calls Try.prog 35 #[v] w fun e w' => e = .returned (hv (shaF (rowsT rs))) ∧ Mod (fun _ => False) w w' := by
  have HR := Lib.hid h
  have HRL := Lib.hid (rowsT_len h.f hn)
  obtain ⟨ao, cap, rfl⟩ := h.shape
  clear h
  go_enter Try.func35, Try.ntmps35
  go_upto_region 1 with (fail)
  obtain ⟨w1, hw1⟩ : ∃ z, z = w.alloc (.cells ((List.replicate 32 0).map bv).toArray 26) := ⟨_, rfl⟩
  change Code.wp _ _ _ _ (w.alloc (.cells ((List.replicate 32 0).map bv).toArray 26))
  rw [← hw1]
  have K1 := Lib.hid (show Cs w1 w.heap.size ((List.replicate 32 0).map bv).toArray 26 by rw [hw1]; exact Cs.new _ _ _)
  have KM1 := Lib.hid (show Mod (fun _ => False) w w1 by rw [hw1]; exact (Mod.refl _ _).alloc _)
  have hs1 : w1.heap.size = w.heap.size + 1 := by rw [hw1]; simp
  have HR1 := Lib.hid (HR.out.still KM1.out)
  clear hw1 HR
  go_wp2_with fail
  refine (NewWriter_R _).mono ?_
  rintro e w2 ⟨b, rfl, hW2, hm2⟩
  have KW2 := Lib.hid hW2
  have KM2 := Lib.hid (show Mod (fun k => w1.heap.size ≤ k) w1 w2 from hm2.mono (fun _ _ h => h.elim))
  have z2 := hm2.size
  clear hW2 hm2
  go_wp2_with fail
  refine (WInt_R KW2.out (n := (rs.length : Int)) ⟨by omega, by omega⟩ (by decide)).mono ?_
  rintro e w3 ⟨rfl, hW3, hm3⟩
  rw [encI_nat] at hW3
  have KW3 := Lib.hid (show WrR (fun k => w1.heap.size ≤ k) (10 + 210 * 0) w3 b (encN rs.length ++ rowsB (rs.take 0)) from by
    have := hW3.widen (R' := fun k => w1.heap.size ≤ k) (fun k h => by unfold New at h; omega) (Nat.le_refl _)
    simpa [rowsB] using this)
  have KM3 := Lib.hid (show Mod (fun k => w1.heap.size ≤ k) w1 w3 from KM2.out.trans hm3 (fun k _ h => h.1))
  have z3 := hm3.size
  clear hW3 hm3 KM2 KW2
  go_wp2
  go_loopw [12] (fun t12 wr => ∃ (i : Nat), t12 = .int .i64 i ∧ i ≤ rs.length ∧ WrR (fun k => w1.heap.size ≤ k) (10 + 210 * i) wr b (encN rs.length ++ rowsB (rs.take i)) ∧ Mod (fun k => w1.heap.size ≤ k) w1 wr) (fun t12 _ => rs.length - (intOf t12).toNat)
  case atStart => exact ⟨0, rfl, by omega, KW3.out, KM3.out⟩
  case round =>
    obtain ⟨wi, rfl⟩ : ∃ x, x = wr := ⟨_, rfl⟩
    obtain ⟨i, rfl, hi, hW, hm⟩ := hrel
    have KW := Lib.hid hW
    have KM := Lib.hid hm
    have zi := hm.size
    clear hW hm KW3 KM3
    by_cases hlt : i < rs.length
    · obtain ⟨g, o, rfl, hg, hcell0⟩ := HR1.out.at hlt
      have hcell : wi.cell? ⟨g, o + i, none⟩ = some rs[i].1 := KM.out.cell hcell0 (by show ¬ w1.heap.size ≤ g; omega)
      have HRW := Lib.hid ((HR1.out.f rs[i] (List.getElem_mem hlt)).mod KM.out (fun k h1 h2 => by omega))
      have HT := Lib.hid (rowsB_take rs i hlt)
      have HSH := Lib.hid HRW.out.shape
      obtain ⟨q, hq⟩ : ∃ q, q = rs[i] := ⟨_, rfl⟩
      rw [← hq] at hcell HRW HT
      clear hcell0 HSH hq
      obtain ⟨vi, bi⟩ := q
      obtain ⟨ai, ci, rfl⟩ : ∃ ai ci, vi = .slice ai bi.length ci := HRW.out.shape
      try dsimp only at hcell HRW HT
      have hb200 := HRW.out.2.2
      try dsimp only at hb200
      go_wp2_with fail
      refine (WRow_R KW.out HRW.out (fun k h1 h2 => by omega) (by omega)).mono ?_
      rintro e w4 ⟨rfl, hW4, hm4⟩
      have KW4 := Lib.hid (show WrR (fun k => w1.heap.size ≤ k) (10 + 210 * (i + 1)) w4 b (encN rs.length ++ rowsB (rs.take (i + 1))) from by
        rw [HT.out, ← List.append_assoc]
        exact hW4.widen (R' := fun k => w1.heap.size ≤ k) (fun k h => by unfold New at h; omega) (by omega))
      have KM4 := Lib.hid (show Mod (fun k => w1.heap.size ≤ k) w1 w4 from KM.out.trans hm4 (fun k _ h => h))
      clear hW4 hm4 KW KM HT HRW hcell
      go_wp2
      go_roundw
      case rel => exact ⟨i + 1, by go_num, by omega, KW4.out, KM4.out⟩
      case measure => first | (simp [intOf]; done) | (simp [intOf]; omega)
    · obtain rfl : i = rs.length := by omega
      have KW9 := Lib.hid (show WrR (fun k => w1.heap.size ≤ k) (10 + 210 * rs.length) wi b (rowsT rs) from by have := KW.out; rw [rowsB_all] at this; exact this)
      have HWN := Lib.hid (show ∀ k, w1.heap.size ≤ k → k = w.heap.size → False from fun k h1 h2 => by omega)
      have HWL := Lib.hid (show 10 + 210 * rs.length ≤ 1000000 by omega)
      have HW := Lib.hid (show ByLen (RsW w.heap.size 26 ((List.replicate 32 0).map bv) ((shaF (rowsT rs)).map bv)) [] wi from K1.out.mod KM.out (fun h => by omega))
      have KMF := Lib.hid (KM1.out.trans KM.out (fun k h1 h2 => by omega))
      clear KW KM K1 KM1 HR1
      go_upto_region 7 with (fail)
      generalize ha0 : Act.mk _ _ = a0
      have oe2 : a0.eval (.tmp 2) = .pointer (some ⟨w.heap.size, 0, none⟩) := by rw [← ha0]; rfl
      have oe3 : a0.eval (.tmp 3) = .pointer (some ⟨b, 0, none⟩) := by rw [← ha0]; rfl
      have hsz0 : a0.tmps.size = 23 := by rw [← ha0]; rfl
      have HA0 := Lib.hid ha0
      clear ha0
      refine wp_region_G 23 hsz0 (by kernel_rfl) (by kernel_rfl) [20, 21, 22, 26] (by kernel_rfl) (by decide) (fun j => j = w.heap.size) (fun _ j => j = w.heap.size) (fun _ _ h => h) Still (fun _ _ _ h => h) (fun _ _ _ hm h => hm.trans h (fun _ _ h => h.elim)) [gi (.pointer (some ⟨b, 0, none⟩)), (fun t v w => t.length = 0 → RdB w v (rowsT rs)), gi (hv (shaF (rowsT rs))), ga] ⟨gi_stable, ⟨fun _ _ _ _ h hr h0 => (h h0).mod hr (fun _ _ _ h => h), fun _ _ _ _ _ _ _ h0 => by simp at h0⟩, gi_stable, ga_stable, trivial⟩ [3] (by kernel_rfl) (by decide) (by kernel_rfl) (ByLen (RsW w.heap.size 26 ((List.replicate 32 0).map bv) ((shaF (rowsT rs)).map bv))) (ByLen.still RsW_still) HW.out ⟨?_, ?_, ?_, ?_, trivial⟩ ?_
      · intro tr act w' hm hout hsz hd hG hk hub
        exact jg_run (by rfl) rfl (wanted_none rfl) (ex_move rfl ((hout 3 (by decide)).trans oe3)) (Mod.refl _ _) rfl
      · intro tr act w' hm hout hsz hd hG hk hub
        have h0 := hd ⟨0, .data⟩ (by simp) rfl _ rfl
        refine jg_call (args := #[.pointer (some ⟨b, 0, none⟩)]) (by rfl) rfl (wanted_none rfl) (by rw [ex_callF rfl Try.func60 (by kernel_rfl) (by kernel_rfl)]; exact congrArg (fun z => Result.ok (Next.enter _ z) _) (by simp only [List.map_toArray, List.map_cons, List.map_nil, show act.eval (.tmp 20) = _ from h0]; try rfl)) (WBytes_R (KW9.out.mod hm HWN.out) HWL.out) ?_
        rintro e w2 ⟨v', rfl, ho, hm2⟩
        exact ⟨v', rfl, hm2, fun _ => ho.1.rd⟩
      · intro tr act w' hm hout hsz hd hG hk hub
        have h1 := hd ⟨1, .data⟩ (by simp) rfl _ rfl
        have hrd := h1 (Nat.le_zero.1 (hub 0 3 rfl (by kernel_rfl)))
        refine jg_call (args := #[act.eval (.tmp 21)]) (by rfl) rfl (wanted_none rfl) (by rw [ex_callF rfl Try.func16 (by kernel_rfl) (by kernel_rfl)]; simp) (Sum_any _ (rowsT rs) _ hrd HRL.out) ?_
        rintro e w2 ⟨rfl, hm2⟩
        exact ⟨_, rfl, hm2, rfl⟩
      · intro tr act w' hm hout hsz hd hG hk hub
        have h2 := hd ⟨2, .data⟩ (by simp) rfl _ rfl
        have hl := hk 0 rfl
        refine jc_turn (by rfl) rfl (wanted_none rfl) (ex_storeA rfl (hG.at hl) (off := 0) (vs := (shaF (rowsT rs)).map bv) (by rw [List.length_map, shaF_len]; exact size_hash) (ints_oneCell .u8 _) (by simp [shaF_len]) ((hout 2 (by decide)).trans oe2) (by rw [show act.eval (.tmp 22) = _ from h2]; rfl)) (setRow_Mod.mono (fun _ _ h => h)) trivial (ByLen.on hl ?_)
        rw [lay_whole _ _ (by simp [shaF_len])]
        exact setRow_Cs (hG.at hl)
      intro vs tr w9 hl htl hm hG hV
      obtain ⟨v0, vs0, rfl, hl0⟩ := list_cons hl
      obtain ⟨v1, vs1, rfl, hl1⟩ := list_cons hl0
      obtain ⟨v2, vs2, rfl, hl2⟩ := list_cons hl1
      obtain ⟨v3, vs3, rfl, hl3⟩ := list_cons hl2
      obtain rfl := list_nil hl3
      clear hl hl0 hl1 hl2 hl3
      have ha0 := HA0.out
      subst ha0
      clear HA0 hV hsz0 oe2 oe3
      simp only [putAll, Act.put, List.setIfInBounds_toArray, List.set_cons_zero, List.set_cons_succ, List.set_nil]
      have hw : Cs w9 w.heap.size ((shaF (rowsT rs)).map bv).toArray 26 := hG.at htl
      have KMG := Lib.hid (KMF.out.trans hm (fun k h1 h2 => by omega))
      have HC := Lib.hid hw
      clear hG hm htl HW KMF hw
      go_wp2
      refine bodyPost_ret (results_cellA rfl _ _ w.heap.size ((shaF (rowsT rs)).map bv) rfl (fun k u hu => by rw [Cs.cell HC.out]; simpa using hu) Try.underlying26 rfl (by rw [List.length_map, shaF_len]; exact size_hash)) rfl ⟨rfl, KMG.out⟩

set_option maxHeartbeats 4000000 in
theorem RefRowsF_any (v : Value) (rs : List (Value × List Int)) (w : World) (h : RdRows w v rs) (hn : rs.length ≤ 8) :
    Calls Try.prog 40 #[v] w fun e w' => e = .returned (hv (shaF (rowsT rs))) ∧ Mod (fun _ => False) w w' := by
  have HR := Lib.hid h
  have HRL := Lib.hid (rowsT_len h.f hn)
  obtain ⟨ao, cap, rfl⟩ := h.shape
  clear h
  go_enter Try.func40, Try.ntmps40
  go_upto_region 1 with (fail)
  obtain ⟨w1, hw1⟩ : ∃ z, z = w.alloc (.cells ((List.replicate 32 0).map bv).toArray 26) := ⟨_, rfl⟩
  change Code.wp _ _ _ _ (w.alloc (.cells ((List.replicate 32 0).map bv).toArray 26))
  rw [← hw1]
  have K1 := Lib.hid (show Cs w1 w.heap.size ((List.replicate 32 0).map bv).toArray 26 by rw [hw1]; exact Cs.new _ _ _)
  have KM1 := Lib.hid (show Mod (fun _ => False) w w1 by rw [hw1]; exact (Mod.refl _ _).alloc _)
  have hs1 : w1.heap.size = w.heap.size + 1 := by rw [hw1]; simp
  have HR1 := Lib.hid (HR.out.still KM1.out)
  clear hw1 HR
  go_wp2_with fail
  refine (RefInt_R (rs.length : Int) ⟨by omega, by omega⟩ _).mono ?_
  rintro e w2 ⟨vb, rfl, hB2, hm2⟩
  rw [encI_nat] at hB2
  have KB2 := Lib.hid (show OwR (fun k => w1.heap.size ≤ k) (10 + 210 * 0) w2 vb (encN rs.length ++ rowsB (rs.take 0)) from by
    have := hB2.widen (R' := fun k => w1.heap.size ≤ k) (fun k h => h.1) (Nat.le_refl _)
    simpa [rowsB] using this)
  have KM2 := Lib.hid (show Mod (fun k => w1.heap.size ≤ k) w1 w2 from hm2.mono (fun _ _ h => h.elim))
  have z2 := hm2.size
  clear hB2 hm2
  go_wp2
  go_loopw [3, 10] (fun t3 t10 wr => ∃ (i : Nat), t10 = .int .i64 i ∧ i ≤ rs.length ∧ OwR (fun k => w1.heap.size ≤ k) (10 + 210 * i) wr t3 (encN rs.length ++ rowsB (rs.take i)) ∧ Mod (fun k => w1.heap.size ≤ k) w1 wr) (fun _ t10 _ => rs.length - (intOf t10).toNat)
  case atStart => exact ⟨0, rfl, by omega, KB2.out, KM2.out⟩
  case round =>
    obtain ⟨wi, rfl⟩ : ∃ x, x = wr := ⟨_, rfl⟩
    obtain ⟨i, rfl, hi, hB, hm⟩ := hrel
    have KB := Lib.hid hB
    have KM := Lib.hid hm
    have zi := hm.size
    clear hB hm KB2 KM2
    by_cases hlt : i < rs.length
    · obtain ⟨g, o, rfl, hg, hcell0⟩ := HR1.out.at hlt
      have hcell : wi.cell? ⟨g, o + i, none⟩ = some rs[i].1 := KM.out.cell hcell0 (by show ¬ w1.heap.size ≤ g; omega)
      have HRW := Lib.hid ((HR1.out.f rs[i] (List.getElem_mem hlt)).mod KM.out (fun k h1 h2 => by omega))
      have HT := Lib.hid (rowsB_take rs i hlt)
      have HSH := Lib.hid HRW.out.shape
      obtain ⟨q, hq⟩ : ∃ q, q = rs[i] := ⟨_, rfl⟩
      rw [← hq] at hcell HRW HT
      clear hcell0 HSH hq
      obtain ⟨vi, bi⟩ := q
      obtain ⟨ai, ci, rfl⟩ : ∃ ai ci, vi = .slice ai bi.length ci := HRW.out.shape
      try dsimp only at hcell HRW HT
      have hb200 := HRW.out.2.2
      try dsimp only at hb200
      go_wp2_with fail
      refine (RefRow_R HRW.out (by decide)).mono ?_
      rintro e w4 ⟨v4, rfl, hO4, hm4⟩
      obtain ⟨P, hP⟩ : ∃ P, P = encN rs.length ++ rowsB (rs.take i) := ⟨_, rfl⟩
      obtain ⟨bx, hbx⟩ : ∃ bx, bx = encN bi.length ++ bi := ⟨_, rfl⟩
      rw [← hbx] at hO4
      have hkb := KB.out
      rw [← hP] at hkb
      have HPX := Lib.hid (show encN rs.length ++ rowsB (rs.take (i + 1)) = P ++ bx by rw [hP, hbx, HT.out, List.append_assoc])
      have KO4 := Lib.hid hO4.rd
      have KB4 := Lib.hid (hkb.mod hm4 (fun _ _ h => h))
      have KM4 := Lib.hid (KM.out.trans hm4 (fun _ _ h => h.elim))
      have z4 := hm4.size
      clear hO4 hm4 KB KM HRW hcell hkb hP hbx HT
      obtain ⟨ab, cb, hvb⟩ := KB4.out.shape
      subst hvb
      obtain ⟨a4, c4, rfl⟩ := KO4.out.shape
      go_wp2_with (at_builtin; go_must (refine wpList_appR rfl (.tmp 13) (.tmp 18) rfl rfl KB4.out rfl KO4.out (by omega) ?_))
      intro ao5 cap5 w5 ho5 hm5
      have KB5 := Lib.hid (show OwR (fun k => w1.heap.size ≤ k) (10 + 210 * (i + 1)) w5 _ (encN rs.length ++ rowsB (rs.take (i + 1))) from by
        rw [HPX.out]
        exact ho5.widen (R' := fun k => w1.heap.size ≤ k) (fun k h => by unfold New at h; omega) (by omega))
      have KM5 := Lib.hid (show Mod (fun k => w1.heap.size ≤ k) w1 w5 from KM4.out.trans hm5 (fun k _ h => by have := hs1; omega))
      clear ho5 hm5 KB4 KM4 HPX KO4
      go_wp2
      go_roundw
      case rel => exact ⟨i + 1, by go_num, by omega, KB5.out, KM5.out⟩
      case measure => first | (simp [intOf]; done) | (simp [intOf]; omega)
    · obtain rfl : i = rs.length := by omega
      have KB9 := Lib.hid (show OwR (fun k => w1.heap.size ≤ k) (10 + 210 * rs.length) wi u3 (rowsT rs) from by have := KB.out; rw [rowsB_all] at this; exact this)
      have HBN := Lib.hid (show Apart u3 (rowsT rs).length (fun j => j = w.heap.size) from fun _ g hg h => by have := KB9.out.2.1 g hg; omega)
      have HW := Lib.hid (show ByLen (RsW w.heap.size 26 ((List.replicate 32 0).map bv) ((shaF (rowsT rs)).map bv)) [] wi from K1.out.mod KM.out (fun h => by omega))
      have KMF := Lib.hid (KM1.out.trans KM.out (fun k h1 h2 => by omega))
      clear KB KM K1 KM1 HR1
      go_upto_region 7 with (fail)
      generalize ha0 : Act.mk _ _ = a0
      have oe2 : a0.eval (.tmp 2) = .pointer (some ⟨w.heap.size, 0, none⟩) := by rw [← ha0]; rfl
      have oe3 : a0.eval (.tmp 3) = u3 := by rw [← ha0]; rfl
      have hsz0 : a0.tmps.size = 23 := by rw [← ha0]; rfl
      have HA0 := Lib.hid ha0
      clear ha0
      refine wp_region_G 23 hsz0 (by kernel_rfl) (by kernel_rfl) [21, 22, 25] (by kernel_rfl) (by decide) (fun j => j = w.heap.size) (fun _ j => j = w.heap.size) (fun _ _ h => h) Still (fun _ _ _ h => h) (fun _ _ _ hm h => hm.trans h (fun _ _ h => h.elim)) [gi (u3), gi (hv (shaF (rowsT rs))), ga] ⟨gi_stable, gi_stable, ga_stable, trivial⟩ [2] (by kernel_rfl) (by decide) (by kernel_rfl) (ByLen (RsW w.heap.size 26 ((List.replicate 32 0).map bv) ((shaF (rowsT rs)).map bv))) (ByLen.still RsW_still) HW.out ⟨?_, ?_, ?_, trivial⟩ ?_
      · intro tr act w' hm hout hsz hd hG hk hub
        exact jg_run (by rfl) rfl (wanted_none rfl) (ex_move rfl ((hout 3 (by decide)).trans oe3)) (Mod.refl _ _) rfl
      · intro tr act w' hm hout hsz hd hG hk hub
        have h0 := hd ⟨0, .data⟩ (by simp) rfl _ rfl
        refine jg_call (args := #[u3]) (by rfl) rfl (wanted_none rfl) (by rw [ex_callF rfl Try.func17 (by kernel_rfl) (by kernel_rfl)]; exact congrArg (fun z => Result.ok (Next.enter _ z) _) (by simp only [List.map_toArray, List.map_cons, List.map_nil, show act.eval (.tmp 21) = _ from h0]; try rfl)) (RefSum_any _ (rowsT rs) _ (KB9.out.1.rd.mod hm HBN.out) HRL.out) ?_
        rintro e w2 ⟨rfl, hm2⟩
        exact ⟨_, rfl, hm2, rfl⟩
      · intro tr act w' hm hout hsz hd hG hk hub
        have h1 := hd ⟨1, .data⟩ (by simp) rfl _ rfl
        have hl := hk 0 rfl
        refine jc_turn (by rfl) rfl (wanted_none rfl) (ex_storeA rfl (hG.at hl) (off := 0) (vs := (shaF (rowsT rs)).map bv) (by rw [List.length_map, shaF_len]; exact size_hash) (ints_oneCell .u8 _) (by simp [shaF_len]) ((hout 2 (by decide)).trans oe2) (by rw [show act.eval (.tmp 22) = _ from h1]; rfl)) (setRow_Mod.mono (fun _ _ h => h)) trivial (ByLen.on hl ?_)
        rw [lay_whole _ _ (by simp [shaF_len])]
        exact setRow_Cs (hG.at hl)
      intro vs tr w9 hl htl hm hG hV
      obtain ⟨v0, vs0, rfl, hl0⟩ := list_cons hl
      obtain ⟨v1, vs1, rfl, hl1⟩ := list_cons hl0
      obtain ⟨v2, vs2, rfl, hl2⟩ := list_cons hl1
      obtain rfl := list_nil hl2
      clear hl hl0 hl1 hl2
      have ha0 := HA0.out
      subst ha0
      clear HA0 hV hsz0 oe2 oe3
      simp only [putAll, Act.put, List.setIfInBounds_toArray, List.set_cons_zero, List.set_cons_succ, List.set_nil]
      have hw : Cs w9 w.heap.size ((shaF (rowsT rs)).map bv).toArray 26 := hG.at htl
      have KMG := Lib.hid (KMF.out.trans hm (fun k h1 h2 => by omega))
      have HC := Lib.hid hw
      clear hG hm htl HW KMF hw
      go_wp2
      refine bodyPost_ret (results_cellA rfl _ _ w.heap.size ((shaF (rowsT rs)).map bv) rfl (fun k u hu => by rw [Cs.cell HC.out]; simpa using hu) Try.underlying26 rfl (by rw [List.length_map, shaF_len]; exact size_hash)) rfl ⟨rfl, KMG.out⟩
end Go.Proofs.Ytfgepphankfbfaa
