/- sha.Set. -/
import Derived.Test.YtfgepphankfbfaaSha5
import Derived.Test.YtfgepphankfbfaaOps
import Derived.Deep.Cut
set_option maxRecDepth 100000
set_option linter.unusedVariables false
namespace Go.Proofs.Ytfgepphankfbfaa
open Go Go.RowKit Go.Gv
open Go.Maps (Keyed)

theorem laidOutX : laidOutB Try.prog = true := by kernel_rfl
theorem mapM_ok {α β : Type} {f : α → Option β} : ∀ {l : List α}, (∀ x ∈ l, ∃ y, f x = some y) → ∃ r, l.mapM f = some r
  | [], _ => ⟨[], rfl⟩
  | a :: l, h => by
    obtain ⟨y, hy⟩ := h a (by simp)
    obtain ⟨r, hr⟩ := mapM_ok (l := l) fun x hx => h x (by simp [hx])
    exact ⟨y :: r, by rw [List.mapM_cons, hy]; simp [hr]⟩
/-- a hash -/
def HK (bs : List Int) : Prop := bs.length = 32 ∧ Bytes bs
theorem hv_inj {a b : List Int} (h : hv a = hv b) : a = b := by
  unfold hv at h
  have h2 : a.map bv = b.map bv := by
    have := congrArg (fun v => match v with | Value.agg x => x.toList | _ => []) h
    simpa using this
  exact (List.map_inj_right (fun x y e => by cases e; rfl)).1 h2
theorem hash_key (bs : List Int) (h : HK bs) : ∃ l, keyOf Try.prog 26 (hv bs) = some l := by
  have hu := Try.underlying26
  have hkt : Try.prog.keyType 26 = true := by kernel_rfl
  have hc : Try.prog.cellsOf 26 = 32 := by kernel_rfl
  have hc1 : Try.prog.cellsOf 5 = 1 := by kernel_rfl
  obtain ⟨n, hn⟩ : ∃ n, n + 2 = Try.prog.types.size + 1 := ⟨Try.prog.types.size - 1, by have : 0 < Try.prog.types.size := of_decide_eq_true (by kernel_rfl); omega⟩
  have hfm : (hv bs).formed Try.prog 26 = true := by simp [Value.formed, hv, hu, hc, h.1]
  have hcl : (hv bs).cells.toList = bs.map bv := by simp [hv, Value.cells]
  unfold keyOf
  rw [hu]
  simp only [hkt, hfm, Bool.and_self, if_true, hcl, ← hn]
  obtain ⟨r, hr⟩ : ∃ r, ((List.range 32).mapM fun i => Try.prog.keyLits (n + 1) 5 (((bs.map bv).drop (i * Try.prog.cellsOf 5)).take (Try.prog.cellsOf 5))) = some r := by
    refine mapM_ok fun i hi => ?_
    have hi' : i < bs.length := by rw [h.1]; exact List.mem_range.1 hi
    have hx := h.2 bs[i] (List.getElem_mem hi')
    have e : ((bs.map bv).drop (i * Try.prog.cellsOf 5)).take (Try.prog.cellsOf 5) = [.int .u8 bs[i]] := by
      rw [hc1, Nat.mul_one, List.drop_eq_getElem_cons (by simpa using hi')]
      simp [bv]
    rw [e]
    unfold Program.keyLits
    rw [Try.underlying5]
    have hw : (Lit.int .u8 bs[i]).wf = true := by simp [Lit.wf, IntKind.min, IntKind.max, IntKind.signed, IntKind.bits]; omega
    simp [hw]
  have hk : Try.prog.keyLits (n + 2) 26 (bs.map bv) = some r.flatten := by
    unfold Program.keyLits
    rw [hu]
    simp only [List.length_map, h.1, hc, if_true, hr, Option.map_some]
  exact ⟨_, by rw [hk]; rfl⟩
theorem hash_enc : KeyEnc Try.prog 26 hv HK where
  law := Keyed.of_law (deep_law_laid laidOutX (m := 3) (by omega) (of_decide_eq_true (by kernel_rfl)) (by kernel_rfl) (by kernel_rfl))
  key := hash_key
  inj := fun a b _ _ h => hv_inj h

/-- a set of hashes -/
structure SetIs (w : World) (g b : Nat) (l : List (List Int × Unit)) : Prop where
  cell : Cs w g #[.map (some b)] 125
  map : MapIs w b hv (fun _ : Unit => .bool true) HK l
theorem SetIs.mod {S : Nat → Prop} {w w' : World} {g b : Nat} {l : List (List Int × Unit)} (h : SetIs w g b l) (hm : Mod S w w') (h1 : ¬ S g) (h2 : ¬ S b) : SetIs w' g b l := ⟨h.cell.mod hm h1, h.map.mod hm h2⟩
theorem mput_same {l : List (List Int × Unit)} {a : List Int} (h : mhas l a = true) : mput l a () = l := by
  induction l with
  | nil => cases h
  | cons q l ih =>
    obtain ⟨x, y⟩ := q
    unfold mput
    unfold mhas at h
    rw [mlook_cons] at h
    by_cases e : x = a
    · rw [if_pos e, e]
    · rw [if_neg e] at h ⊢
      rw [ih h]
theorem set_look (l : List (List Int × Unit)) (a : List Int) : ((mlook l a).map (fun _ : Unit => Value.bool true)).getD (.bool false) = .bool (mhas l a) := by
  unfold mhas
  cases mlook l a <;> rfl
theorem SetIs.ne {w : World} {g b : Nat} {l : List (List Int × Unit)} (h : SetIs w g b l) : ¬ g = b := by
  rintro rfl
  obtain ⟨⟨es, clock, hb, -⟩, -, -⟩ := h.map
  have := h.cell
  unfold Cs at this
  rw [hb] at this
  cases this
theorem zero_run {P : Program} {T : TypeId} {z : Value} (h : (P.info? T).bind (·.zero) = some z) (w : World) : (zeroValue T).run P w = .ok z w := by
  obtain ⟨info, hi, hz⟩ := zero_of h
  simp [zeroValue, typeInfo, hi, hz]
theorem zero_bool : (Try.prog.info? 4).bind (·.zero) = some (.bool false) := by kernel_rfl
theorem zero_int : (Try.prog.info? 3).bind (·.zero) = some (.int .i64 0) := by kernel_rfl
theorem gst_map {b : Nat} (f : Nat → List (List Int × Unit)) : ∀ (k : Nat) (w w' : World), MapIs w b hv (fun _ : Unit => .bool true) HK (f k) → Mod (fun _ => False) w w' → MapIs w' b hv (fun _ : Unit => .bool true) HK (f k) := fun _ _ _ h hm => h.mod hm (fun h => h)
set_option maxHeartbeats 1000000 in
theorem Set_new (w : World) : Calls Try.prog 29 #[] w fun e w' => ∃ g b, e = .returned (.pointer (some ⟨g, 0, none⟩)) ∧ w.heap.size ≤ g ∧ w.heap.size ≤ b ∧ SetIs w' g b [] ∧ Mod (fun _ => False) w w' := by
  go_enter Try.func29, Try.ntmps29
  go_wp2_with (refine wpList_makeMap rfl 123 rfl ?_)
  go_ret
  refine ⟨w.heap.size + 1, w.heap.size, rfl, by omega, by omega, ⟨?_, ?_⟩, ((Mod.refl _ _).alloc _).alloc _⟩
  · exact Cs_new1 _ _ _ _
  · exact (MapIs.made w hv (fun _ : Unit => .bool true) HK).mod ((Mod.refl (fun _ => False) _).alloc _) (fun h => h)
set_option maxHeartbeats 1000000 in
theorem Set_has {w : World} {g b : Nat} {l : List (List Int × Unit)} (h : SetIs w g b l) {bs : List Int} (hb : HK bs) :
    Calls Try.prog 30 #[.pointer (some ⟨g, 0, none⟩), hv bs] w fun e w' => e = .returned (.bool (mhas l bs)) ∧ Mod (fun _ => False) w w' := by
  have HS := Lib.hid h
  have HB := Lib.hid hb
  have HNE := Lib.hid h.ne
  clear h hb
  change Calls _ _ #[.pointer (some ⟨g, 0, none⟩), .agg (bs.map bv).toArray] _ _
  go_enter Try.func30, Try.ntmps30
  go_upto_region 1 with (fail)
  obtain ⟨w1, hw1⟩ : ∃ x, x = w.alloc (.cells (bs.map bv).toArray 26) := ⟨_, rfl⟩
  change Code.wp _ _ _ _ (w.alloc (.cells (bs.map bv).toArray 26))
  rw [← hw1]
  have KC := Lib.hid (show Cs w1 w.heap.size (bs.map bv).toArray 26 by rw [hw1]; exact Cs.new _ _ _)
  have KM := Lib.hid (show Mod (fun _ => False) w w1 by rw [hw1]; exact (Mod.refl _ _).alloc _)
  have HS1 := Lib.hid (HS.out.mod KM.out (fun h => h) (fun h => h))
  have zg := HS1.out.cell.lt
  have zb := HS.out.map.lt
  clear hw1
  generalize ha0 : Act.mk _ _ = a0
  have oe0 : a0.eval (.tmp 0) = .pointer (some ⟨g, 0, none⟩) := by rw [← ha0]; rfl
  have oe3 : a0.eval (.tmp 3) = .pointer (some ⟨w.heap.size, 0, none⟩) := by rw [← ha0]; rfl
  have hsz0 : a0.tmps.size = 11 := by rw [← ha0]; rfl
  have HA0 := Lib.hid ha0
  clear ha0
  refine wp_region_L (by kernel_rfl) (by kernel_rfl) [5, 6, 7, 8, 9, 10, 4] rfl (by decide) (by rw [hsz0]; decide) [isv (.pointer (some ⟨g, 0, none⟩)), isv (.pointer (some ⟨g, 0, none⟩)), isv (.pointer (some ⟨g, 0, none⟩)), isv (.map (some b)), isv (hv bs), isv (.bool (mhas l bs)), isv (.bool (mhas l bs))] ⟨isv_stable, isv_stable, isv_stable, isv_stable, isv_stable, isv_stable, isv_stable, trivial⟩ ⟨?_, ?_, ?_, ?_, ?_, ?_, ?_, trivial⟩ ?_
  · intro act w' hm hout hsz hd
    exact lv_run rfl (wanted_none rfl) (ex_move rfl ((hout 0 (by decide)).trans oe0)) (Mod.refl _ _) rfl
  · intro act w' hm hout hsz hd
    have h0 := hd ⟨0, .data⟩ (by simp) rfl
    exact lv_run rfl (wanted_none rfl) (ex_nil rfl h0) (Mod.refl _ _) rfl
  · intro act w' hm hout hsz hd
    have h1 := hd ⟨1, .data⟩ (by simp) rfl
    refine lv_run rfl (wanted_none rfl) (ex_field rfl Try.underlying125 rfl (by kernel_rfl) h1) (Mod.refl _ _) ?_
    rfl
  · intro act w' hm hout hsz hd
    have h2 := hd ⟨2, .data⟩ (by simp) rfl
    exact lv_run rfl (wanted_none rfl) (ex_load1 rfl Try.underlying123 rfl h2 (by rw [(HS1.out.cell.mod hm (fun h => h)).cell]; rfl)) (Mod.refl _ _) rfl
  · intro act w' hm hout hsz hd
    exact lv_run rfl (wanted_none rfl) (ex_loadA rfl Try.underlying26 rfl (off := 0) (cs := bs.map bv) (by rw [List.length_map, HB.out.1]; exact size_hash) ((hout 3 (by decide)).trans oe3) (fun j u hu => by rw [Nat.zero_add, (KC.out.mod hm (fun h => h)).cell]; simpa using hu)) (Mod.refl _ _) rfl
  · intro act w' hm hout hsz hd
    have h3 := hd ⟨3, .data⟩ (by simp) rfl
    have h4 := hd ⟨4, .data⟩ (by simp) rfl
    exact lv_run rfl (wanted_none rfl) (ex_lookup rfl h3 h4 ((HS1.out.map.mod hm (fun h => h)).lookup hash_enc Try.underlying123 (zero_run zero_bool _) bs HB.out false)) (Mod.refl _ _) (set_look l bs)
  · intro act w' hm hout hsz hd
    have h5 := hd ⟨5, .data⟩ (by simp) rfl
    exact lv_run rfl (wanted_none rfl) (ex_assign rfl h5) (Mod.refl _ _) rfl
  intro vs w2 hl hm hV
  obtain ⟨v0, vs0, rfl, hl0⟩ := list_cons hl
  obtain ⟨v1, vs1, rfl, hl1⟩ := list_cons hl0
  obtain ⟨v2, vs2, rfl, hl2⟩ := list_cons hl1
  obtain ⟨v3, vs3, rfl, hl3⟩ := list_cons hl2
  obtain ⟨v4, vs4, rfl, hl4⟩ := list_cons hl3
  obtain ⟨v5, vs5, rfl, hl5⟩ := list_cons hl4
  obtain ⟨v6, vs6, rfl, hl6⟩ := list_cons hl5
  obtain rfl := list_nil hl6
  clear hl hl0 hl1 hl2 hl3 hl4 hl5 hl6
  obtain rfl : v6 = .bool (mhas l bs) := hV 6 _ rfl
  have ha0 := HA0.out
  subst ha0
  clear HA0 hV hsz0 oe0 oe3
  simp only [putAll, Act.put, List.setIfInBounds_toArray, List.set_cons_zero, List.set_cons_succ]
  have KM2 := Lib.hid (KM.out.trans hm (fun _ _ h => h))
  clear hm
  go_wp2
  go_ret
  exact ⟨rfl, KM2.out⟩
set_option maxHeartbeats 1000000 in
theorem Set_add {w : World} {g b : Nat} {l : List (List Int × Unit)} (h : SetIs w g b l) {bs : List Int} (hb : HK bs) :
    Calls Try.prog 31 #[.pointer (some ⟨g, 0, none⟩), hv bs] w fun e w' => e = .returned (.bool (!mhas l bs)) ∧ SetIs w' g b (mput l bs ()) ∧ Mod (fun k => k = b) w w' := by
  have HS := Lib.hid h
  have HB := Lib.hid hb
  have HNE := Lib.hid h.ne
  clear h hb
  change Calls _ _ #[.pointer (some ⟨g, 0, none⟩), .agg (bs.map bv).toArray] _ _
  go_enter Try.func31, Try.ntmps31
  go_upto_region 1 with (fail)
  obtain ⟨w1, hw1⟩ : ∃ x, x = w.alloc (.cells (bs.map bv).toArray 26) := ⟨_, rfl⟩
  change Code.wp _ _ _ _ (w.alloc (.cells (bs.map bv).toArray 26))
  rw [← hw1]
  have KC := Lib.hid (show Cs w1 w.heap.size (bs.map bv).toArray 26 by rw [hw1]; exact Cs.new _ _ _)
  have KM := Lib.hid (show Mod (fun _ => False) w w1 by rw [hw1]; exact (Mod.refl _ _).alloc _)
  have HS1 := Lib.hid (HS.out.mod KM.out (fun h => h) (fun h => h))
  have zg := HS1.out.cell.lt
  have zb := HS.out.map.lt
  clear hw1
  generalize ha0 : Act.mk _ _ = a0
  have oe0 : a0.eval (.tmp 0) = .pointer (some ⟨g, 0, none⟩) := by rw [← ha0]; rfl
  have oe3 : a0.eval (.tmp 3) = .pointer (some ⟨w.heap.size, 0, none⟩) := by rw [← ha0]; rfl
  have hsz0 : a0.tmps.size = 16 := by rw [← ha0]; rfl
  have HA0 := Lib.hid ha0
  clear ha0
  refine wp_region_L (by kernel_rfl) (by kernel_rfl) [5, 6, 7, 8, 9, 10] rfl (by decide) (by rw [hsz0]; decide) [isv (.pointer (some ⟨g, 0, none⟩)), isv (.pointer (some ⟨g, 0, none⟩)), isv (.pointer (some ⟨g, 0, none⟩)), isv (.map (some b)), isv (hv bs), isv (.bool (mhas l bs))] ⟨isv_stable, isv_stable, isv_stable, isv_stable, isv_stable, isv_stable, trivial⟩ ⟨?_, ?_, ?_, ?_, ?_, ?_, trivial⟩ ?_
  · intro act w' hm hout hsz hd
    exact lv_run rfl (wanted_none rfl) (ex_move rfl ((hout 0 (by decide)).trans oe0)) (Mod.refl _ _) rfl
  · intro act w' hm hout hsz hd
    have h0 := hd ⟨0, .data⟩ (by simp) rfl
    exact lv_run rfl (wanted_none rfl) (ex_nil rfl h0) (Mod.refl _ _) rfl
  · intro act w' hm hout hsz hd
    have h1 := hd ⟨1, .data⟩ (by simp) rfl
    refine lv_run rfl (wanted_none rfl) (ex_field rfl Try.underlying125 rfl (by kernel_rfl) h1) (Mod.refl _ _) ?_
    rfl
  · intro act w' hm hout hsz hd
    have h2 := hd ⟨2, .data⟩ (by simp) rfl
    exact lv_run rfl (wanted_none rfl) (ex_load1 rfl Try.underlying123 rfl h2 (by rw [(HS1.out.cell.mod hm (fun h => h)).cell]; rfl)) (Mod.refl _ _) rfl
  · intro act w' hm hout hsz hd
    exact lv_run rfl (wanted_none rfl) (ex_loadA rfl Try.underlying26 rfl (off := 0) (cs := bs.map bv) (by rw [List.length_map, HB.out.1]; exact size_hash) ((hout 3 (by decide)).trans oe3) (fun j u hu => by rw [Nat.zero_add, (KC.out.mod hm (fun h => h)).cell]; simpa using hu)) (Mod.refl _ _) rfl
  · intro act w' hm hout hsz hd
    have h3 := hd ⟨3, .data⟩ (by simp) rfl
    have h4 := hd ⟨4, .data⟩ (by simp) rfl
    exact lv_run rfl (wanted_none rfl) (ex_lookup rfl h3 h4 ((HS1.out.map.mod hm (fun h => h)).lookup hash_enc Try.underlying123 (zero_run zero_bool _) bs HB.out false)) (Mod.refl _ _) (set_look l bs)
  intro vs w2 hl hm hV
  obtain ⟨v0, vs0, rfl, hl0⟩ := list_cons hl
  obtain ⟨v1, vs1, rfl, hl1⟩ := list_cons hl0
  obtain ⟨v2, vs2, rfl, hl2⟩ := list_cons hl1
  obtain ⟨v3, vs3, rfl, hl3⟩ := list_cons hl2
  obtain ⟨v4, vs4, rfl, hl4⟩ := list_cons hl3
  obtain ⟨v5, vs5, rfl, hl5⟩ := list_cons hl4
  obtain rfl := list_nil hl5
  clear hl hl0 hl1 hl2 hl3 hl4 hl5
  obtain rfl : v5 = .bool (mhas l bs) := hV 5 _ rfl
  have ha0 := HA0.out
  subst ha0
  clear HA0 hV hsz0 oe0 oe3
  simp only [putAll, Act.put, List.setIfInBounds_toArray, List.set_cons_zero, List.set_cons_succ]
  have KM2 := Lib.hid (KM.out.trans hm (fun _ _ h => h))
  have HS2 := Lib.hid (HS1.out.mod hm (fun h => h) (fun h => h))
  have KC2 := Lib.hid (KC.out.mod hm (fun h => h))
  clear hm HS1 KC KM
  cases hh : mhas l bs with
  | true =>
    go_wp2
    go_ret
    exact ⟨by rw [hh]; rfl, by rw [mput_same hh]; exact HS2.out, KM2.out.mono (fun _ _ h => h.elim)⟩
  | false =>
    have HH := Lib.hid hh
    clear hh
    go_upto_region 3 with (fail)
    generalize ha0 : Act.mk _ _ = a0
    have oe0 : a0.eval (.tmp 0) = .pointer (some ⟨g, 0, none⟩) := by rw [← ha0]; rfl
    have oe3 : a0.eval (.tmp 3) = .pointer (some ⟨w.heap.size, 0, none⟩) := by rw [← ha0]; rfl
    have hsz0 : a0.tmps.size = 16 := by rw [← ha0]; rfl
    have HA0 := Lib.hid ha0
    clear ha0
    refine wp_region_J 16 hsz0 (by kernel_rfl) (by kernel_rfl) [11, 12, 13, 14, 15, 21] (by kernel_rfl) (by decide) (fun k => k = b) [isv (.pointer (some ⟨g, 0, none⟩)), isv (.pointer (some ⟨g, 0, none⟩)), isv (.pointer (some ⟨g, 0, none⟩)), isv (.map (some b)), isv (hv bs), anyv] ⟨isv_stableS, isv_stableS, isv_stableS, isv_stableS, isv_stableS, anyv_stableS, trivial⟩ [5] (by kernel_rfl) (by decide) (by kernel_rfl) (fun k w => MapIs w b hv (fun _ : Unit => .bool true) HK ((fun k => if k = 0 then l else mput l bs ()) k)) (gst_map (fun k => if k = 0 then l else mput l bs ())) HS2.out.map ⟨?_, ?_, ?_, ?_, ?_, ?_, trivial⟩ ?_
    · intro act w' hm hout hsz hd hG
      refine jv_pure (by decide) (gst_map (fun k => if k = 0 then l else mput l bs ())) ?_
      exact lv_run rfl (wanted_none rfl) (ex_move rfl ((hout 0 (by decide)).trans oe0)) (Mod.refl _ _) rfl
    · intro act w' hm hout hsz hd hG
      have h0 := hd ⟨0, .data⟩ (by simp) rfl _ rfl
      refine jv_pure (by decide) (gst_map (fun k => if k = 0 then l else mput l bs ())) ?_
      exact lv_run rfl (wanted_none rfl) (ex_nil rfl h0) (Mod.refl _ _) rfl
    · intro act w' hm hout hsz hd hG
      have h1 := hd ⟨1, .data⟩ (by simp) rfl _ rfl
      refine jv_pure (by decide) (gst_map (fun k => if k = 0 then l else mput l bs ())) ?_
      refine lv_run rfl (wanted_none rfl) (ex_field rfl Try.underlying125 rfl (by kernel_rfl) h1) (Mod.refl _ _) ?_
      rfl
    · intro act w' hm hout hsz hd hG
      have h2 := hd ⟨2, .data⟩ (by simp) rfl _ rfl
      refine jv_pure (by decide) (gst_map (fun k => if k = 0 then l else mput l bs ())) ?_
      exact lv_run rfl (wanted_none rfl) (ex_load1 rfl Try.underlying123 rfl h2 (by rw [(HS2.out.cell.mod hm HNE.out).cell]; rfl)) (Mod.refl _ _) rfl
    · intro act w' hm hout hsz hd hG
      refine jv_pure (by decide) (gst_map (fun k => if k = 0 then l else mput l bs ())) ?_
      exact lv_run rfl (wanted_none rfl) (ex_loadA rfl Try.underlying26 rfl (off := 0) (cs := bs.map bv) (by rw [List.length_map, HB.out.1]; exact size_hash) ((hout 3 (by decide)).trans oe3) (fun j u hu => by rw [Nat.zero_add, (KC2.out.mod hm (by omega)).cell]; simpa using hu)) (Mod.refl _ _) rfl
    · intro act w' hm hout hsz hd hG
      have h3 := hd ⟨3, .data⟩ (by simp) rfl _ rfl
      have h4 := hd ⟨4, .data⟩ (by simp) rfl _ rfl
      have hg := hG 0 rfl
      obtain ⟨w'', hr, u1, u2⟩ := hg.update hash_enc Try.underlying123 bs HB.out ()
      exact jv_turn (k := 0) rfl (wanted_none rfl) (ex_mapUpdate (mv := .map (some b)) (kv := hv bs) (uv := .bool true) rfl h3 h4 rfl hr) (by decide) rfl u2 trivial u1
    intro vs w3 hl hm hG hV
    obtain ⟨v0, vs0, rfl, hl0⟩ := list_cons hl
    obtain ⟨v1, vs1, rfl, hl1⟩ := list_cons hl0
    obtain ⟨v2, vs2, rfl, hl2⟩ := list_cons hl1
    obtain ⟨v3, vs3, rfl, hl3⟩ := list_cons hl2
    obtain ⟨v4, vs4, rfl, hl4⟩ := list_cons hl3
    obtain ⟨v5, vs5, rfl, hl5⟩ := list_cons hl4
    obtain rfl := list_nil hl5
    clear hl hl0 hl1 hl2 hl3 hl4 hl5
    have ha0 := HA0.out
    subst ha0
    clear HA0 hV hsz0 oe0 oe3
    simp only [putAll, Act.put, List.setIfInBounds_toArray, List.set_cons_zero, List.set_cons_succ]
    have KM3 := Lib.hid (KM2.out.mono (S' := fun k => k = b) (fun _ _ h => h.elim) |>.trans hm (fun _ _ h => h))
    have HS3 := Lib.hid (show SetIs w3 g b (mput l bs ()) from ⟨HS2.out.cell.mod hm HNE.out, hG⟩)
    clear hm hG
    go_wp2
    go_ret
    exact ⟨by rw [HH.out]; rfl, HS3.out, KM3.out⟩
set_option maxHeartbeats 1000000 in
theorem Set_len {w : World} {g b : Nat} {l : List (List Int × Unit)} (h : SetIs w g b l) : Calls Try.prog 32 #[.pointer (some ⟨g, 0, none⟩)] w fun e w' => e = .returned (.int .i64 l.length) ∧ Mod (fun _ => False) w w' := by
  have HS := Lib.hid h
  have c0 : w.cell? ⟨g, 0, none⟩ = some (.map (some b)) := by rw [h.cell.cell]; rfl
  have hlen := h.map.len Try.underlying123 3
  clear h
  go_enter Try.func32, Try.ntmps32
  go_wp2
  go_ret
  exact ⟨rfl, by first | exact Mod.refl _ _ | exact (Mod.refl _ _).drew⟩
end Go.Proofs.Ytfgepphankfbfaa
