/- ShaSets: the walk. -/
import Derived.Test.YtfgepphankfbfaaSet
import Derived.Test.YtfgepphankfbfaaSha6
import Derived.Test.YtfgepphankfbfaaIdx
import Derived.Test.YtfgepphankfbfaaVal5
import Derived.Test.YtfgepphankfbfaaActs3
set_option maxRecDepth 100000
set_option linter.unusedVariables false
namespace Go.Proofs.Ytfgepphankfbfaa
open Go Go.RowKit Go.Gv

def ddTo (L : List (List Int)) (i : Nat) : List (List Int) := (L.take i).foldl (fun D h => if h ∈ D then D else D ++ [h]) []
theorem ddTo_succ (L : List (List Int)) (i : Nat) (h : i < L.length) : ddTo L (i + 1) = if L[i] ∈ ddTo L i then ddTo L i else ddTo L i ++ [L[i]] := by
  unfold ddTo
  rw [List.take_succ_eq_append_getElem h, List.foldl_append]
  rfl
theorem ddTo_mem (L : List (List Int)) (i : Nat) (h : i ≤ L.length) : ∀ x ∈ ddTo L i, x ∈ L := by
  induction i with
  | zero => intro x hx; simp [ddTo] at hx
  | succ i ih =>
    intro x hx
    rw [ddTo_succ L i (by omega)] at hx
    split at hx
    · exact ih (by omega) x hx
    · rcases List.mem_append.1 hx with hx | hx
      · exact ih (by omega) x hx
      · simp at hx; rw [hx]; exact List.getElem_mem _
theorem ddTo_len (L : List (List Int)) (i : Nat) (h : i ≤ L.length) : (ddTo L i).length ≤ i := by
  induction i with
  | zero => simp [ddTo]
  | succ i ih =>
    rw [ddTo_succ L i (by omega)]
    have := ih (by omega)
    split
    · omega
    · simp; omega
def prs (D : List (List Int)) : List (List Int × Unit) := D.map fun h => (h, ())
theorem prs_has (D : List (List Int)) (x : List Int) : mhas (prs D) x = decide (x ∈ D) := by
  induction D with
  | nil => rfl
  | cons y D ih =>
    show mhas ((y, ()) :: prs D) x = _
    rw [mhas_cons, ih]
    by_cases h : y = x
    · subst h; simp
    · have h2 : ¬ x = y := fun e => h e.symm
      simp [h, h2]
theorem prs_put (D : List (List Int)) (x : List Int) : mput (prs D) x () = prs (if x ∈ D then D else D ++ [x]) := by
  by_cases h : x ∈ D
  · rw [if_pos h, mput_same (by rw [prs_has]; exact decide_eq_true h)]
  · rw [if_neg h, mput_none]
    · simp [prs]
    · intro p hp e
      simp only [prs, List.mem_map] at hp
      obtain ⟨y, hy, rfl⟩ := hp
      exact h (e ▸ hy)
/-- the hashes that were had, in a slice that may be appended to -/
def HsO (w : World) (v : Value) (D : List (List Int)) : Prop := Own IsB 26 32 w v D.length (D.flatMap fun h => h.map bv)
theorem hash_append {w : World} {v : Value} {D : List (List Int)} {k : Nat} {x : List Int} (h : HsO w v D) (hk : Cs w k (x.map bv).toArray 26) (hx : HK x) (hn : D.length ≤ 1000) {ty : TypeId} :
    ∃ ao cap w', (Builtin.append_ #[82, 82] ty #[v, .slice (some ⟨k, 0, none⟩) 1 1]).run Try.prog w = .ok (.slice ao (D.length + 1) cap) w' ∧ HsO w' (.slice ao (D.length + 1) cap) (D ++ [x]) ∧ Mod (fun k => some k = v.ownBlock) w w' ∧ ((Value.slice ao (D.length + 1) cap).ownBlock = v.ownBlock ∨ ∃ k, (Value.slice ao (D.length + 1) cap).ownBlock = some k ∧ w.heap.size ≤ k) := by
  obtain ⟨info, hi, hz⟩ := zero_of (show (Try.prog.info? 26).bind (·.zero) = some (.agg ((List.replicate 32 0).map bv).toArray) by kernel_rfl)
  have hs : info.size = 32 := by
    have : (Try.prog.info? 26).map (·.size) = some 32 := size_hash
    rw [hi] at this; exact Option.some.inj this
  have hb : info.bytes = 32 := by
    have : (Try.prog.info? 26).map (·.bytes) = some 32 := by kernel_rfl
    rw [hi] at this; exact Option.some.inj this
  have hE : ∀ u ∈ x.map bv, IsB u := isB_all hx.2
  have hrd : Rd 32 w (.slice (some ⟨k, 0, none⟩) 1 1) 1 (x.map bv) := Rd.mk (by omega) (by rw [maxLen_val]; omega) (by simp [hx.1]) (fun j u hu => by rw [Nat.zero_add, hk.cell]; simpa using hu)
  obtain ⟨ao, cap, w', h1, h2⟩ := run_append (P := Try.prog) (E := IsB) w 82 ty 26 info _ 32 32 Try.underlying82 hi hz hs hb (by simp [Value.cells]) (by decide) (by
    intro u hu
    simp only [Value.cells, List.mem_map] at hu
    obtain ⟨y, hy, rfl⟩ := hu
    rw [List.eq_of_mem_replicate hy]
    exact ⟨0, rfl, by decide, by decide⟩) v D.length _ h _ 1 (x.map bv) hrd hE (ints_oneCell .u8 x) (by omega) (by rw [maxLen_val]; omega)
  refine ⟨ao, cap, w', h1, ?_, h2.2.1, h2.2.2⟩
  have := h2.1
  unfold HsO
  simpa using this
theorem HsO.at {w : World} {v : Value} {D : List (List Int)} (h : HsO w v D) (hD : ∀ y ∈ D, HK y) {j : Nat} (hj : j < D.length) : ∃ g cap, v = .slice (some ⟨g, 0, none⟩) D.length cap ∧ ∀ j' u, ((D[j]).map bv)[j']? = some u → w.cell? ⟨g, 0 + j * 32 + j', none⟩ = some u := by
  obtain ⟨hl, -, h0 | ⟨g, cap, cur, rfl, hg, h1, h2, h3, h4, -⟩⟩ := h
  · omega
  · refine ⟨g, cap, rfl, fun j' u hu => ?_⟩
    rw [hg.cell, Nat.zero_add]
    have hlt := (List.getElem?_eq_some_iff.1 hu).1
    rw [List.length_map, (hD _ (List.getElem_mem hj)).1] at hlt
    have key : ∀ (D : List (List Int)) (j : Nat) (hj : j < D.length), (∀ y ∈ D, HK y) → ∀ j' < 32, (D.flatMap fun h => h.map bv)[j * 32 + j']? = (D[j].map bv)[j']? := by
      intro D
      induction D with
      | nil => intro j hj; simp at hj
      | cons y D ih =>
        intro j hj hD j' hj'
        have hy : (y.map bv).length = 32 := by rw [List.length_map]; exact (hD y (by simp)).1
        rw [List.flatMap_cons]
        cases j with
        | zero => rw [List.getElem?_append_left (by omega)]; simp
        | succ j =>
          rw [List.getElem?_append_right (by omega), hy, show (j + 1) * 32 + j' - 32 = j * 32 + j' by omega]
          rw [ih j (by simpa using hj) (fun z hz => hD z (by simp [hz])) j' hj']
          rfl
    have e := key D j hj hD j' hlt
    rw [← e, ← h4] at hu
    rw [List.getElem?_take] at hu
    split at hu
    · rw [← Array.getElem?_toList]; exact hu
    · cases hu
theorem HsO.shape {w : World} {v : Value} {D : List (List Int)} (h : HsO w v D) : ∃ ao cap, v = .slice ao D.length cap := Own.shape h
def StSt (g b : Nat) (l l' : List (List Int × Unit)) : Nat → List Value → World → Prop := fun k _ w => match k with
  | 0 | 1 => SetIs w g b l
  | _ => SetIs w g b l'
theorem StSt_still {g b : Nat} {l l' : List (List Int × Unit)} : ∀ k t w w', StSt g b l l' k t w → Mod (fun _ => False) w w' → StSt g b l l' k t w' := by
  intro k t w w' h hm
  match k, h with
  | 0, h | 1, h => exact SetIs.mod h hm (fun h => h) (fun h => h)
  | k + 2, h => exact SetIs.mod h hm (fun h => h) (fun h => h)
def ApSt (w0 : World) (v : Value) (D : List (List Int)) (x : List Int) : Nat → List Value → World → Prop := fun k t w => match k with
  | 0 => w0.heap.size ≤ w.heap.size ∧ HsO w v D
  | _ => w0.heap.size ≤ w.heap.size ∧ ∃ ao cap, t[0]? = some (.slice ao (D.length + 1) cap) ∧ HsO w (.slice ao (D.length + 1) cap) (D ++ [x]) ∧ ((Value.slice ao (D.length + 1) cap).ownBlock = v.ownBlock ∨ ∃ k, (Value.slice ao (D.length + 1) cap).ownBlock = some k ∧ w0.heap.size ≤ k)
theorem ApSt_still {w0 : World} {v : Value} {D : List (List Int)} {x : List Int} : ∀ k t w w', ApSt w0 v D x k t w → Mod (fun _ => False) w w' → ApSt w0 v D x k t w' := by
  intro k t w w' h hm
  match k, h with
  | 0, h => exact ⟨Nat.le_trans h.1 hm.size, Own.mod h.2 hm (fun _ _ h => h)⟩
  | k + 1, ⟨h0, ao, cap, h1, h2, h3⟩ => exact ⟨Nat.le_trans h0 hm.size, ao, cap, h1, Own.mod h2 hm (fun _ _ h => h), h3⟩
set_option maxHeartbeats 8000000 in
theorem ShaSets_walk (L : List (List Int)) (hL : ∀ x ∈ L, HK x) (v : Value) (w : World) (hr : RdE 32 (fun h : List Int => h.map bv) (fun k => k < w.heap.size) w v L) :
    Calls Try.prog 8 #[v] w fun e w' => e = .returned (.bool true) ∧ Mod (fun _ => False) w w' := by
  have HLK := Lib.hid hL
  have HRE := Lib.hid hr
  obtain ⟨aol, capl, rfl, hlm⟩ := hr.shape'
  have HLM := Lib.hid hlm
  clear hL hr hlm
  go_enter Try.func8, Try.ntmps8
  go_wp2_with fail
  refine (Set_new _).mono ?_
  rintro e w1 ⟨g, b, rfl, y1, y2, hs1, hm1⟩
  have HS1 := Lib.hid hs1
  have KM1 := Lib.hid hm1
  have zg := hs1.cell.lt
  have zb := hs1.map.lt
  clear hs1 hm1
  go_wp2
  go_loopw [4, 5] (fun t4 t5 wr => ∃ (i : Nat), t5 = .int .i64 i ∧ i ≤ L.length ∧ i ≤ 30 ∧ HsO wr t4 (ddTo L i) ∧ (∀ k, t4.ownBlock = some k → w.heap.size ≤ k ∧ k ≠ g ∧ k ≠ b) ∧ SetIs wr g b (prs (ddTo L i)) ∧ Mod (fun _ => False) w wr) (fun _ t5 _ => 30 - (intOf t5).toNat)
  case atStart => exact ⟨0, rfl, by omega, by omega, Own.nil _ _ _ _, (fun k hk => by cases hk), HS1.out, KM1.out⟩
  case round =>
    obtain ⟨wi, rfl⟩ : ∃ z, z = wr := ⟨_, rfl⟩
    obtain ⟨i, rfl, hiL, hi30, hD, hown, hset, hmod⟩ := hrel
    obtain ⟨D, hDe⟩ : ∃ D, D = ddTo L i := ⟨_, rfl⟩
    rw [← hDe] at hD hset
    have HD0 := Lib.hid hD
    have HOW := Lib.hid hown
    have HS0i := Lib.hid hset
    have KMw := Lib.hid hmod
    have HDE := Lib.hid hDe
    have HDL := Lib.hid (show D.length ≤ i by rw [hDe]; exact ddTo_len L i hiL)
    have HDK := Lib.hid (show ∀ y ∈ D, HK y from fun y hy => HLK.out y (ddTo_mem L i hiL y (hDe ▸ hy)))
    obtain ⟨aod, capd, rfl⟩ := hD.shape
    clear hD hown hset hmod hDe HS1 KM1
    by_cases hin : i < L.length ∧ i < 30
    · obtain ⟨hi1, hi2⟩ := hin
      obtain ⟨gl, ol, rfl, hcl⟩ := HRE.out.at' hi1
      obtain ⟨x, hx⟩ : ∃ x, x = L[i] := ⟨_, rfl⟩
      rw [← hx] at hcl
      have hlt := HRE.out
      have hgl : gl < w.heap.size := by
        rcases hlt with ⟨rfl, -⟩ | ⟨g', o', c', h1, h2, -⟩
        · simp at hi1
        · cases h2; exact h1
      have HX := Lib.hid hx
      have HXK := Lib.hid (show HK x by rw [hx]; exact HLK.out _ (List.getElem_mem hi1))
      have XcL := Lib.hid (fun j' u hu => KMw.out.cell (hcl j' u hu) (fun h => h))
      have HIL := Lib.hid hi1
      have hii1 : (i : Int) < (L.length : Int) := by omega
      have hii2 : (i : Int) < 30 := by omega
      clear hcl hlt hx hi2
      go_wp2
      go_loopw [23, 6] (fun t23 t6 wr => ∃ (j : Nat), t23 = .int .i64 j ∧ j ≤ D.length ∧ t6 = .bool (decide (x ∈ D.take j)) ∧ Mod (fun _ => False) wi wr) (fun t23 _ _ => D.length - (intOf t23).toNat)
      case atStart => exact ⟨0, rfl, by omega, by simp, Mod.refl _ _⟩
      case round =>
        obtain ⟨wj, rfl⟩ : ∃ z, z = wr := ⟨_, rfl⟩
        obtain ⟨j, rfl, hj, rfl, hmj⟩ := hrel
        have KMi := Lib.hid hmj
        have hj30 : j ≤ 30 := by have := HDL.out; omega
        clear hmj
        by_cases hjl : j < D.length
        · obtain ⟨gd, capd', e1, hcd⟩ := HD0.out.at HDK.out hjl
          cases e1
          obtain ⟨y, hy⟩ : ∃ y, y = D[j] := ⟨_, rfl⟩
          rw [← hy] at hcd
          have YcD := Lib.hid hcd
          have HYK := Lib.hid (show HK y by rw [hy]; exact HDK.out _ (List.getElem_mem hjl))
          have hnext : decide (x ∈ D.take (j + 1)) = (decide (x ∈ D.take j) || decide (y = x)) := by
            rw [List.take_succ_eq_append_getElem hjl, hy]
            simp only [List.mem_append, List.mem_singleton, Bool.decide_or]
            congr 1
            exact decide_eq_decide.2 eq_comm
          have HNX := Lib.hid hnext
          have HJ := Lib.hid hjl
          have hjj : (j : Int) < (D.length : Int) := by omega
          clear hcd hy hnext hjl
          cases hxi : decide (x ∈ D.take j) with
          | true =>
            have HXI := Lib.hid hxi
            clear hxi
            go_upto_region 12 with (fail)
            generalize ha0 : Act.mk _ _ = a0
            have oe0 : a0.eval (.tmp 0) = .slice (some ⟨gl, ol, none⟩) L.length capl := by rw [← ha0]; rfl
            have oe4 : a0.eval (.tmp 4) = .slice (some ⟨gd, 0, none⟩) D.length capd := by rw [← ha0]; rfl
            have oe5 : a0.eval (.tmp 5) = .int .i64 (i : Nat) := by rw [← ha0]; rfl
            have oe6 : a0.eval (.tmp 6) = .bool true := by rw [← ha0]; rfl
            have oe7 : a0.eval (.tmp 7) = .int .i64 (j : Nat) := by rw [← ha0]; rfl
            have hsz0 : a0.tmps.size = 81 := by rw [← ha0]; rfl
            have HA0 := Lib.hid ha0
            clear ha0
            refine wp_region_H 81 hsz0 (by kernel_rfl) (by kernel_rfl) [26, 27, 28, 29, 30, 31, 32, 33, 34, 35, 36, 37, 6] (by kernel_rfl) (by decide) (fun _ => False) (fun _ _ => False) (fun _ _ h => h) Still (fun _ _ _ h => h) (fun _ _ _ hm h => hm.trans h (fun _ _ h => h.elim)) [gi (.bool true), gi (.bool true), gi (undef), gi (undef), gi (undef), gi (undef), gi (undef), gi (undef), gi (undef), gi (undef), gi (undef), gi (.bool true), gi (.bool true)] ⟨gi_stable, gi_stable, gi_stable, gi_stable, gi_stable, gi_stable, gi_stable, gi_stable, gi_stable, gi_stable, gi_stable, gi_stable, gi_stable, trivial⟩ [] (by kernel_rfl) (by decide) (by kernel_rfl) (fun _ _ => True) (fun _ _ _ _ _ => trivial) trivial ⟨?_, ?_, ?_, ?_, ?_, ?_, ?_, ?_, ?_, ?_, ?_, ?_, ?_, trivial⟩ ?_
            · intro tr act w' hm hout hsz hd hG hk hub hpre
              exact jg_run (by rfl) rfl (wanted_none rfl) (ex_move rfl ((hpre 12 6 rfl (by kernel_rfl)).trans oe6)) (Mod.refl _ _) rfl
            · intro tr act w' hm hout hsz hd hG hk hub hpre
              have h0 := hd ⟨0, .data⟩ (by simp) rfl _ rfl
              exact jg_run (by rfl) rfl (wanted_none rfl) (ex_move rfl h0) (Mod.refl _ _) rfl
            · intro tr act w' hm hout hsz hd hG hk hub hpre
              have h1 := hd ⟨1, .guard⟩ (by simp) rfl _ rfl
              exact jg_skip (fun _ _ _ h => h) (by rfl) rfl ((wanted_of rfl rfl (hsz 27 (by decide)) h1).trans rfl) rfl
            · intro tr act w' hm hout hsz hd hG hk hub hpre
              have h1 := hd ⟨1, .guard⟩ (by simp) rfl _ rfl
              exact jg_skip (fun _ _ _ h => h) (by rfl) rfl ((wanted_of rfl rfl (hsz 27 (by decide)) h1).trans rfl) rfl
            · intro tr act w' hm hout hsz hd hG hk hub hpre
              have h1 := hd ⟨1, .guard⟩ (by simp) rfl _ rfl
              exact jg_skip (fun _ _ _ h => h) (by rfl) rfl ((wanted_of rfl rfl (hsz 27 (by decide)) h1).trans rfl) rfl
            · intro tr act w' hm hout hsz hd hG hk hub hpre
              have h1 := hd ⟨1, .guard⟩ (by simp) rfl _ rfl
              exact jg_skip (fun _ _ _ h => h) (by rfl) rfl ((wanted_of rfl rfl (hsz 27 (by decide)) h1).trans rfl) rfl
            · intro tr act w' hm hout hsz hd hG hk hub hpre
              have h1 := hd ⟨1, .guard⟩ (by simp) rfl _ rfl
              exact jg_skip (fun _ _ _ h => h) (by rfl) rfl ((wanted_of rfl rfl (hsz 27 (by decide)) h1).trans rfl) rfl
            · intro tr act w' hm hout hsz hd hG hk hub hpre
              have h1 := hd ⟨1, .guard⟩ (by simp) rfl _ rfl
              exact jg_skip (fun _ _ _ h => h) (by rfl) rfl ((wanted_of rfl rfl (hsz 27 (by decide)) h1).trans rfl) rfl
            · intro tr act w' hm hout hsz hd hG hk hub hpre
              have h1 := hd ⟨1, .guard⟩ (by simp) rfl _ rfl
              exact jg_skip (fun _ _ _ h => h) (by rfl) rfl ((wanted_of rfl rfl (hsz 27 (by decide)) h1).trans rfl) rfl
            · intro tr act w' hm hout hsz hd hG hk hub hpre
              have h1 := hd ⟨1, .guard⟩ (by simp) rfl _ rfl
              exact jg_skip (fun _ _ _ h => h) (by rfl) rfl ((wanted_of rfl rfl (hsz 27 (by decide)) h1).trans rfl) rfl
            · intro tr act w' hm hout hsz hd hG hk hub hpre
              have h1 := hd ⟨1, .guard⟩ (by simp) rfl _ rfl
              exact jg_skip (fun _ _ _ h => h) (by rfl) rfl ((wanted_of rfl rfl (hsz 27 (by decide)) h1).trans rfl) rfl
            · intro tr act w' hm hout hsz hd hG hk hub hpre
              have h1 := hd ⟨1, .data⟩ (by simp) rfl _ rfl
              have h10 := hd ⟨10, .data⟩ (by simp) rfl _ rfl
              exact jg_run (by rfl) rfl (wanted_none rfl) (ex_pick rfl h1 rfl h10) (Mod.refl _ _) rfl
            · intro tr act w' hm hout hsz hd hG hk hub hpre
              have h11 := hd ⟨11, .data⟩ (by simp) rfl _ rfl
              exact jg_run (by rfl) rfl (wanted_none rfl) (ex_assign rfl h11) (Mod.refl _ _) rfl
            intro vs tr w4 hl htl hm hG hV
            obtain ⟨v0, vs0, rfl, hl0⟩ := list_cons hl
            obtain ⟨v1, vs1, rfl, hl1⟩ := list_cons hl0
            obtain ⟨v2, vs2, rfl, hl2⟩ := list_cons hl1
            obtain ⟨v3, vs3, rfl, hl3⟩ := list_cons hl2
            obtain ⟨v4, vs4, rfl, hl4⟩ := list_cons hl3
            obtain ⟨v5, vs5, rfl, hl5⟩ := list_cons hl4
            obtain ⟨v6, vs6, rfl, hl6⟩ := list_cons hl5
            obtain ⟨v7, vs7, rfl, hl7⟩ := list_cons hl6
            obtain ⟨v8, vs8, rfl, hl8⟩ := list_cons hl7
            obtain ⟨v9, vs9, rfl, hl9⟩ := list_cons hl8
            obtain ⟨v10, vs10, rfl, hl10⟩ := list_cons hl9
            obtain ⟨v11, vs11, rfl, hl11⟩ := list_cons hl10
            obtain ⟨v12, vs12, rfl, hl12⟩ := list_cons hl11
            obtain rfl := list_nil hl12
            clear hl hl0 hl1 hl2 hl3 hl4 hl5 hl6 hl7 hl8 hl9 hl10 hl11 hl12
            obtain rfl : v12 = .bool true := hV 12 _ rfl
            have ha0 := HA0.out
            subst ha0
            clear HA0 hV hsz0 oe0 oe4 oe5 oe6 oe7
            simp only [putAll, Act.put, List.setIfInBounds_toArray, List.set_cons_zero, List.set_cons_succ]
            go_wp2
            go_roundw
            case rel => exact ⟨j + 1, by go_num, by have := HJ.out; omega, by rw [HNX.out, HXI.out]; rfl, KMi.out.trans hm (fun _ _ h => h)⟩
            case measure => have := HJ.out; first | (simp [intOf]; done) | (simp [intOf]; omega)
          | false =>
            have HXI := Lib.hid hxi
            clear hxi
            go_upto_region 12 with (fail)
            generalize ha0 : Act.mk _ _ = a0
            have oe0 : a0.eval (.tmp 0) = .slice (some ⟨gl, ol, none⟩) L.length capl := by rw [← ha0]; rfl
            have oe4 : a0.eval (.tmp 4) = .slice (some ⟨gd, 0, none⟩) D.length capd := by rw [← ha0]; rfl
            have oe5 : a0.eval (.tmp 5) = .int .i64 (i : Nat) := by rw [← ha0]; rfl
            have oe6 : a0.eval (.tmp 6) = .bool false := by rw [← ha0]; rfl
            have oe7 : a0.eval (.tmp 7) = .int .i64 (j : Nat) := by rw [← ha0]; rfl
            have hsz0 : a0.tmps.size = 81 := by rw [← ha0]; rfl
            have HA0 := Lib.hid ha0
            clear ha0
            refine wp_region_H 81 hsz0 (by kernel_rfl) (by kernel_rfl) [26, 27, 28, 29, 30, 31, 32, 33, 34, 35, 36, 37, 6] (by kernel_rfl) (by decide) (fun _ => False) (fun _ _ => False) (fun _ _ h => h) Still (fun _ _ _ h => h) (fun _ _ _ hm h => hm.trans h (fun _ _ h => h.elim)) [gi (.bool false), gi (.bool false), gi (.slice (some ⟨gd, 0, none⟩) D.length capd), gi (.int .i64 (j : Nat)), gi (.pointer (some ⟨gd, 0 + j * 32, none⟩)), gi (hv y), gi (.slice (some ⟨gl, ol, none⟩) L.length capl), gi (.int .i64 (i : Nat)), gi (.pointer (some ⟨gl, ol + i * 32, none⟩)), gi (hv x), gi (.bool (decide (y = x))), gi (.bool (decide (y = x))), gi (.bool (decide (y = x)))] ⟨gi_stable, gi_stable, gi_stable, gi_stable, gi_stable, gi_stable, gi_stable, gi_stable, gi_stable, gi_stable, gi_stable, gi_stable, gi_stable, trivial⟩ [] (by kernel_rfl) (by decide) (by kernel_rfl) (fun _ _ => True) (fun _ _ _ _ _ => trivial) trivial ⟨?_, ?_, ?_, ?_, ?_, ?_, ?_, ?_, ?_, ?_, ?_, ?_, ?_, trivial⟩ ?_
            · intro tr act w' hm hout hsz hd hG hk hub hpre
              exact jg_run (by rfl) rfl (wanted_none rfl) (ex_move rfl ((hpre 12 6 rfl (by kernel_rfl)).trans oe6)) (Mod.refl _ _) rfl
            · intro tr act w' hm hout hsz hd hG hk hub hpre
              have h0 := hd ⟨0, .data⟩ (by simp) rfl _ rfl
              exact jg_run (by rfl) rfl (wanted_none rfl) (ex_move rfl h0) (Mod.refl _ _) rfl
            · intro tr act w' hm hout hsz hd hG hk hub hpre
              have h1 := hd ⟨1, .guard⟩ (by simp) rfl _ rfl
              exact jg_run (by rfl) rfl ((wanted_of rfl rfl (hsz 27 (by decide)) h1).trans rfl) (ex_move rfl ((hout 4 (by decide)).trans oe4)) (Mod.refl _ _) rfl
            · intro tr act w' hm hout hsz hd hG hk hub hpre
              have h1 := hd ⟨1, .guard⟩ (by simp) rfl _ rfl
              exact jg_run (by rfl) rfl ((wanted_of rfl rfl (hsz 27 (by decide)) h1).trans rfl) (ex_move rfl ((hout 7 (by decide)).trans oe7)) (Mod.refl _ _) rfl
            · intro tr act w' hm hout hsz hd hG hk hub hpre
              have h1 := hd ⟨1, .guard⟩ (by simp) rfl _ rfl
              have h2 := hd ⟨2, .data⟩ (by simp) rfl _ rfl
              have h3 := hd ⟨3, .data⟩ (by simp) rfl _ rfl
              exact jg_run (by rfl) rfl ((wanted_of rfl rfl (hsz 27 (by decide)) h1).trans rfl) (ex_idxS rfl Try.underlying82 (by kernel_rfl) h2 h3 HJ.out) (Mod.refl _ _) rfl
            · intro tr act w' hm hout hsz hd hG hk hub hpre
              have h1 := hd ⟨1, .guard⟩ (by simp) rfl _ rfl
              have h4 := hd ⟨4, .data⟩ (by simp) rfl _ rfl
              exact jg_run (by rfl) rfl ((wanted_of rfl rfl (hsz 27 (by decide)) h1).trans rfl) (ex_loadA rfl Try.underlying26 rfl (off := (0 + j * 32)) (cs := y.map bv) (by rw [List.length_map, HYK.out.1]; exact size_hash) h4 (fun j' u hu => (KMi.out.trans hm (fun _ _ h => h)).cell (YcD.out j' u hu) (fun h => h))) (Mod.refl _ _) rfl
            · intro tr act w' hm hout hsz hd hG hk hub hpre
              have h1 := hd ⟨1, .guard⟩ (by simp) rfl _ rfl
              exact jg_run (by rfl) rfl ((wanted_of rfl rfl (hsz 27 (by decide)) h1).trans rfl) (ex_move rfl ((hout 0 (by decide)).trans oe0)) (Mod.refl _ _) rfl
            · intro tr act w' hm hout hsz hd hG hk hub hpre
              have h1 := hd ⟨1, .guard⟩ (by simp) rfl _ rfl
              exact jg_run (by rfl) rfl ((wanted_of rfl rfl (hsz 27 (by decide)) h1).trans rfl) (ex_move rfl ((hout 5 (by decide)).trans oe5)) (Mod.refl _ _) rfl
            · intro tr act w' hm hout hsz hd hG hk hub hpre
              have h1 := hd ⟨1, .guard⟩ (by simp) rfl _ rfl
              have h6 := hd ⟨6, .data⟩ (by simp) rfl _ rfl
              have h7 := hd ⟨7, .data⟩ (by simp) rfl _ rfl
              exact jg_run (by rfl) rfl ((wanted_of rfl rfl (hsz 27 (by decide)) h1).trans rfl) (ex_idxS rfl Try.underlying82 (by kernel_rfl) h6 h7 HIL.out) (Mod.refl _ _) rfl
            · intro tr act w' hm hout hsz hd hG hk hub hpre
              have h1 := hd ⟨1, .guard⟩ (by simp) rfl _ rfl
              have h8 := hd ⟨8, .data⟩ (by simp) rfl _ rfl
              exact jg_run (by rfl) rfl ((wanted_of rfl rfl (hsz 27 (by decide)) h1).trans rfl) (ex_loadA rfl Try.underlying26 rfl (off := (ol + i * 32)) (cs := x.map bv) (by rw [List.length_map, HXK.out.1]; exact size_hash) h8 (fun j' u hu => (KMi.out.trans hm (fun _ _ h => h)).cell (XcL.out j' u hu) (fun h => h))) (Mod.refl _ _) rfl
            · intro tr act w' hm hout hsz hd hG hk hub hpre
              have h1 := hd ⟨1, .guard⟩ (by simp) rfl _ rfl
              have h5 := hd ⟨5, .data⟩ (by simp) rfl _ rfl
              have h9 := hd ⟨9, .data⟩ (by simp) rfl _ rfl
              exact jg_run (by rfl) rfl ((wanted_of rfl rfl (hsz 27 (by decide)) h1).trans rfl) (ex_bin rfl h5 h9 (hv_guard2 _ _ _ _ _ _) (hv_eql HYK.out.1 HXK.out.1 _)) (Mod.refl _ _) rfl
            · intro tr act w' hm hout hsz hd hG hk hub hpre
              have h1 := hd ⟨1, .data⟩ (by simp) rfl _ rfl
              have h10 := hd ⟨10, .data⟩ (by simp) rfl _ rfl
              exact jg_run (by rfl) rfl (wanted_none rfl) (ex_pick rfl h1 rfl h10) (Mod.refl _ _) rfl
            · intro tr act w' hm hout hsz hd hG hk hub hpre
              have h11 := hd ⟨11, .data⟩ (by simp) rfl _ rfl
              exact jg_run (by rfl) rfl (wanted_none rfl) (ex_assign rfl h11) (Mod.refl _ _) rfl
            intro vs tr w4 hl htl hm hG hV
            obtain ⟨v0, vs0, rfl, hl0⟩ := list_cons hl
            obtain ⟨v1, vs1, rfl, hl1⟩ := list_cons hl0
            obtain ⟨v2, vs2, rfl, hl2⟩ := list_cons hl1
            obtain ⟨v3, vs3, rfl, hl3⟩ := list_cons hl2
            obtain ⟨v4, vs4, rfl, hl4⟩ := list_cons hl3
            obtain ⟨v5, vs5, rfl, hl5⟩ := list_cons hl4
            obtain ⟨v6, vs6, rfl, hl6⟩ := list_cons hl5
            obtain ⟨v7, vs7, rfl, hl7⟩ := list_cons hl6
            obtain ⟨v8, vs8, rfl, hl8⟩ := list_cons hl7
            obtain ⟨v9, vs9, rfl, hl9⟩ := list_cons hl8
            obtain ⟨v10, vs10, rfl, hl10⟩ := list_cons hl9
            obtain ⟨v11, vs11, rfl, hl11⟩ := list_cons hl10
            obtain ⟨v12, vs12, rfl, hl12⟩ := list_cons hl11
            obtain rfl := list_nil hl12
            clear hl hl0 hl1 hl2 hl3 hl4 hl5 hl6 hl7 hl8 hl9 hl10 hl11 hl12
            obtain rfl : v12 = .bool (decide (y = x)) := hV 12 _ rfl
            have ha0 := HA0.out
            subst ha0
            clear HA0 hV hsz0 oe0 oe4 oe5 oe6 oe7
            simp only [putAll, Act.put, List.setIfInBounds_toArray, List.set_cons_zero, List.set_cons_succ]
            go_wp2
            go_roundw
            case rel => exact ⟨j + 1, by go_num, by have := HJ.out; omega, by rw [HNX.out, HXI.out]; rfl, KMi.out.trans hm (fun _ _ h => h)⟩
            case measure => have := HJ.out; first | (simp [intOf]; done) | (simp [intOf]; omega)
        · obtain rfl : j = D.length := by omega
          rw [List.take_length]
          have KMj := Lib.hid (KMw.out.trans KMi.out (fun _ _ h => h))
          have HS0 := Lib.hid (show ByLen (StSt g b (prs D) (mput (prs D) x ())) [] wj from HS0i.out.mod KMi.out (fun h => h) (fun h => h))
          have HDj := Lib.hid (Own.mod HD0.out KMi.out (fun _ _ h => h))
          have XcL2 := Lib.hid (fun j' u hu => KMi.out.cell (XcL.out j' u hu) (fun h => h))
          clear XcL KMi KMw HS0i HD0
          have XcL := Lib.hid XcL2.out
          clear XcL2
          have HBL := Lib.hid (show ¬ gl = b by omega)
          have HLO := Lib.hid (show ¬ (some gl = (Value.slice aod D.length capd).ownBlock) from fun h => by have := (HOW.out gl h.symm).1; omega)
          have HBO := Lib.hid (show ∀ k, (Value.slice aod D.length capd).ownBlock = some k → ¬ k = b ∧ ¬ k = g from fun k hk => ⟨(HOW.out k hk).2.2, (HOW.out k hk).2.1⟩)
          have HDN := Lib.hid (show D.length ≤ 1000 by have := HDL.out; omega)
          have HSU := Lib.hid (ddTo_succ L i HIL.out)
          cases hxi : decide (x ∈ D) with
          | true =>
            have EIN := Lib.hid (show mhas (prs D) x = true by rw [prs_has]; exact hxi)
            have HXI := Lib.hid (of_decide_eq_true hxi)
            have HEQ := Lib.hid (show ddTo L (i + 1) = D by rw [HSU.out, ← HX.out, ← HDE.out, if_pos HXI.out])
            clear hxi
            go_upto_region 14 with (fail)
            generalize ha0 : Act.mk _ _ = a0
            have oe0 : a0.eval (.tmp 0) = .slice (some ⟨gl, ol, none⟩) L.length capl := by rw [← ha0]; rfl
            have oe3 : a0.eval (.tmp 3) = .pointer (some ⟨g, 0, none⟩) := by rw [← ha0]; rfl
            have oe5 : a0.eval (.tmp 5) = .int .i64 (i : Nat) := by rw [← ha0]; rfl
            have oe6 : a0.eval (.tmp 6) = .bool true := by rw [← ha0]; rfl
            have hsz0 : a0.tmps.size = 81 := by rw [← ha0]; rfl
            have HA0 := Lib.hid ha0
            clear ha0
            refine wp_region_G 81 hsz0 (by kernel_rfl) (by kernel_rfl) [39, 40, 41, 42, 43, 44, 45, 46, 47, 48, 49, 50, 51, 52, 53, 54, 55, 56, 57, 58, 59, 60, 61, 62, 63, 64, 65] (by kernel_rfl) (by decide) (fun k => k = b) (fun k j => k = 1 ∧ j = b) (fun _ _ h => h.2) Still (fun _ _ _ h => h) (fun _ _ _ hm h => hm.trans h (fun _ _ h => h.elim)) [gi (.pointer (some ⟨g, 0, none⟩)), gi (.slice (some ⟨gl, ol, none⟩) L.length capl), gi (.int .i64 (i : Nat)), gi (.pointer (some ⟨gl, ol + i * 32, none⟩)), gi (hv x), gi (.bool true), gi (.bool true), gi (.bool false), gi (.bool false), gi (.pointer (some ⟨g, 0, none⟩)), gi (.slice (some ⟨gl, ol, none⟩) L.length capl), gi (.int .i64 (i : Nat)), gi (.pointer (some ⟨gl, ol + i * 32, none⟩)), gi (hv x), gi (.bool false), gi (.bool true), gi (.bool false), gi (.bool false), gi (.bool false), gi (.pointer (some ⟨g, 0, none⟩)), gi (.slice (some ⟨gl, ol, none⟩) L.length capl), gi (.int .i64 (i : Nat)), gi (.pointer (some ⟨gl, ol + i * 32, none⟩)), gi (hv x), gi (.bool true), gi (.bool false), gi (.bool false)] ⟨gi_stable, gi_stable, gi_stable, gi_stable, gi_stable, gi_stable, gi_stable, gi_stable, gi_stable, gi_stable, gi_stable, gi_stable, gi_stable, gi_stable, gi_stable, gi_stable, gi_stable, gi_stable, gi_stable, gi_stable, gi_stable, gi_stable, gi_stable, gi_stable, gi_stable, gi_stable, gi_stable, trivial⟩ [5, 14, 24] (by kernel_rfl) (by decide) (by kernel_rfl) (ByLen (StSt g b (prs D) (mput (prs D) x ()))) (ByLen.still StSt_still) HS0.out ⟨?_, ?_, ?_, ?_, ?_, ?_, ?_, ?_, ?_, ?_, ?_, ?_, ?_, ?_, ?_, ?_, ?_, ?_, ?_, ?_, ?_, ?_, ?_, ?_, ?_, ?_, ?_, trivial⟩ ?_
            · intro tr act w' hm hout hsz hd hG hk hub
              exact jg_run (by rfl) rfl (wanted_none rfl) (ex_move rfl ((hout 3 (by decide)).trans oe3)) (Mod.refl _ _) rfl
            · intro tr act w' hm hout hsz hd hG hk hub
              exact jg_run (by rfl) rfl (wanted_none rfl) (ex_move rfl ((hout 0 (by decide)).trans oe0)) (Mod.refl _ _) rfl
            · intro tr act w' hm hout hsz hd hG hk hub
              exact jg_run (by rfl) rfl (wanted_none rfl) (ex_move rfl ((hout 5 (by decide)).trans oe5)) (Mod.refl _ _) rfl
            · intro tr act w' hm hout hsz hd hG hk hub
              have h1 := hd ⟨1, .data⟩ (by simp) rfl _ rfl
              have h2 := hd ⟨2, .data⟩ (by simp) rfl _ rfl
              exact jg_run (by rfl) rfl (wanted_none rfl) (ex_idxS rfl Try.underlying82 (by kernel_rfl) h1 h2 HIL.out) (Mod.refl _ _) rfl
            · intro tr act w' hm hout hsz hd hG hk hub
              have h3 := hd ⟨3, .data⟩ (by simp) rfl _ rfl
              exact jg_run (by rfl) rfl (wanted_none rfl) (ex_loadA rfl Try.underlying26 rfl (off := (ol + i * 32)) (cs := x.map bv) (by rw [List.length_map, HXK.out.1]; exact size_hash) h3 (fun j' u hu => hm.cell (XcL.out j' u hu) HBL.out)) (Mod.refl _ _) rfl
            · intro tr act w' hm hout hsz hd hG hk hub
              have h0 := hd ⟨0, .data⟩ (by simp) rfl _ rfl
              have h4 := hd ⟨4, .data⟩ (by simp) rfl _ rfl
              have hl := hk 0 rfl
              refine jc_call (args := #[.pointer (some ⟨g, 0, none⟩), hv x]) (by rfl) rfl (wanted_none rfl) (by rw [ex_callF rfl Try.func30 (by kernel_rfl) (by kernel_rfl)]; exact congrArg (fun z => Result.ok (Next.enter _ z) _) (by simp only [List.map_toArray, List.map_cons, List.map_nil, show act.eval (.tmp 39) = _ from h0, show act.eval (.tmp 43) = _ from h4]; try rfl)) (Set_has (hG.at hl) HXK.out) ?_
              rintro e w2 ⟨rfl, hm2⟩
              exact ⟨_, rfl, hm2.mono (fun _ _ h => h.elim), congrArg Value.bool EIN.out, ByLen.on hl (StSt_still 0 tr _ _ (hG.at hl) hm2)⟩
            · intro tr act w' hm hout hsz hd hG hk hub
              exact jg_run (by rfl) rfl (wanted_none rfl) (ex_move rfl ((hout 6 (by decide)).trans oe6)) (Mod.refl _ _) rfl
            · intro tr act w' hm hout hsz hd hG hk hub
              have h5 := hd ⟨5, .data⟩ (by simp) rfl _ rfl
              have h6 := hd ⟨6, .data⟩ (by simp) rfl _ rfl
              exact jg_run (by rfl) rfl (wanted_none rfl) (ex_bin rfl h5 h6 (guard_bools _ _ _ _ _ _) (run_neq_bools _ _ _ Try.underlying4)) (Mod.refl _ _) rfl
            · intro tr act w' hm hout hsz hd hG hk hub
              have h7 := hd ⟨7, .data⟩ (by simp) rfl _ rfl
              exact jg_run (by rfl) rfl (wanted_none rfl) (ex_move rfl h7) (Mod.refl _ _) rfl
            · intro tr act w' hm hout hsz hd hG hk hub
              have h8 := hd ⟨8, .guard⟩ (by simp) rfl _ rfl
              exact jg_run (by rfl) rfl ((wanted_of rfl rfl (hsz 47 (by decide)) h8).trans rfl) (ex_move rfl ((hout 3 (by decide)).trans oe3)) (Mod.refl _ _) rfl
            · intro tr act w' hm hout hsz hd hG hk hub
              have h8 := hd ⟨8, .guard⟩ (by simp) rfl _ rfl
              exact jg_run (by rfl) rfl ((wanted_of rfl rfl (hsz 47 (by decide)) h8).trans rfl) (ex_move rfl ((hout 0 (by decide)).trans oe0)) (Mod.refl _ _) rfl
            · intro tr act w' hm hout hsz hd hG hk hub
              have h8 := hd ⟨8, .guard⟩ (by simp) rfl _ rfl
              exact jg_run (by rfl) rfl ((wanted_of rfl rfl (hsz 47 (by decide)) h8).trans rfl) (ex_move rfl ((hout 5 (by decide)).trans oe5)) (Mod.refl _ _) rfl
            · intro tr act w' hm hout hsz hd hG hk hub
              have h8 := hd ⟨8, .guard⟩ (by simp) rfl _ rfl
              have h10 := hd ⟨10, .data⟩ (by simp) rfl _ rfl
              have h11 := hd ⟨11, .data⟩ (by simp) rfl _ rfl
              exact jg_run (by rfl) rfl ((wanted_of rfl rfl (hsz 47 (by decide)) h8).trans rfl) (ex_idxS rfl Try.underlying82 (by kernel_rfl) h10 h11 HIL.out) (Mod.refl _ _) rfl
            · intro tr act w' hm hout hsz hd hG hk hub
              have h8 := hd ⟨8, .guard⟩ (by simp) rfl _ rfl
              have h12 := hd ⟨12, .data⟩ (by simp) rfl _ rfl
              exact jg_run (by rfl) rfl ((wanted_of rfl rfl (hsz 47 (by decide)) h8).trans rfl) (ex_loadA rfl Try.underlying26 rfl (off := (ol + i * 32)) (cs := x.map bv) (by rw [List.length_map, HXK.out.1]; exact size_hash) h12 (fun j' u hu => hm.cell (XcL.out j' u hu) HBL.out)) (Mod.refl _ _) rfl
            · intro tr act w' hm hout hsz hd hG hk hub
              have h8 := hd ⟨8, .guard⟩ (by simp) rfl _ rfl
              have h9 := hd ⟨9, .data⟩ (by simp) rfl _ rfl
              have h13 := hd ⟨13, .data⟩ (by simp) rfl _ rfl
              have hl := hk 1 rfl
              refine jc_call (args := #[.pointer (some ⟨g, 0, none⟩), hv x]) (by rfl) rfl ((wanted_of rfl rfl (hsz 47 (by decide)) h8).trans rfl) (by rw [ex_callF rfl Try.func31 (by kernel_rfl) (by kernel_rfl)]; exact congrArg (fun z => Result.ok (Next.enter _ z) _) (by simp only [List.map_toArray, List.map_cons, List.map_nil, show act.eval (.tmp 48) = _ from h9, show act.eval (.tmp 52) = _ from h13]; try rfl)) (Set_add (hG.at hl) HXK.out) ?_
              rintro e w2 ⟨rfl, hs2, hm2⟩
              exact ⟨_, rfl, hm2.mono (fun _ _ h => ⟨hl, h⟩), congrArg (fun z => Value.bool (!z)) EIN.out, ByLen.on hl hs2⟩
            · intro tr act w' hm hout hsz hd hG hk hub
              have h8 := hd ⟨8, .guard⟩ (by simp) rfl _ rfl
              exact jg_run (by rfl) rfl ((wanted_of rfl rfl (hsz 47 (by decide)) h8).trans rfl) (ex_move rfl ((hout 6 (by decide)).trans oe6)) (Mod.refl _ _) rfl
            · intro tr act w' hm hout hsz hd hG hk hub
              have h8 := hd ⟨8, .guard⟩ (by simp) rfl _ rfl
              have h14 := hd ⟨14, .data⟩ (by simp) rfl _ rfl
              have h15 := hd ⟨15, .data⟩ (by simp) rfl _ rfl
              exact jg_run (by rfl) rfl ((wanted_of rfl rfl (hsz 47 (by decide)) h8).trans rfl) (ex_bin rfl h14 h15 (guard_bools _ _ _ _ _ _) (run_eql_bools _ _ _ Try.underlying4)) (Mod.refl _ _) rfl
            · intro tr act w' hm hout hsz hd hG hk hub
              have h8 := hd ⟨8, .data⟩ (by simp) rfl _ rfl
              have h16 := hd ⟨16, .data⟩ (by simp) rfl _ rfl
              exact jg_run (by rfl) rfl (wanted_none rfl) (ex_pick rfl h8 rfl h16) (Mod.refl _ _) rfl
            · intro tr act w' hm hout hsz hd hG hk hub
              have h17 := hd ⟨17, .data⟩ (by simp) rfl _ rfl
              exact jg_run (by rfl) rfl (wanted_none rfl) (ex_move rfl h17) (Mod.refl _ _) rfl
            · intro tr act w' hm hout hsz hd hG hk hub
              have h18 := hd ⟨18, .guard⟩ (by simp) rfl _ rfl
              exact jg_run (by rfl) rfl ((wanted_of rfl rfl (hsz 57 (by decide)) h18).trans rfl) (ex_move rfl ((hout 3 (by decide)).trans oe3)) (Mod.refl _ _) rfl
            · intro tr act w' hm hout hsz hd hG hk hub
              have h18 := hd ⟨18, .guard⟩ (by simp) rfl _ rfl
              exact jg_run (by rfl) rfl ((wanted_of rfl rfl (hsz 57 (by decide)) h18).trans rfl) (ex_move rfl ((hout 0 (by decide)).trans oe0)) (Mod.refl _ _) rfl
            · intro tr act w' hm hout hsz hd hG hk hub
              have h18 := hd ⟨18, .guard⟩ (by simp) rfl _ rfl
              exact jg_run (by rfl) rfl ((wanted_of rfl rfl (hsz 57 (by decide)) h18).trans rfl) (ex_move rfl ((hout 5 (by decide)).trans oe5)) (Mod.refl _ _) rfl
            · intro tr act w' hm hout hsz hd hG hk hub
              have h18 := hd ⟨18, .guard⟩ (by simp) rfl _ rfl
              have h20 := hd ⟨20, .data⟩ (by simp) rfl _ rfl
              have h21 := hd ⟨21, .data⟩ (by simp) rfl _ rfl
              exact jg_run (by rfl) rfl ((wanted_of rfl rfl (hsz 57 (by decide)) h18).trans rfl) (ex_idxS rfl Try.underlying82 (by kernel_rfl) h20 h21 HIL.out) (Mod.refl _ _) rfl
            · intro tr act w' hm hout hsz hd hG hk hub
              have h18 := hd ⟨18, .guard⟩ (by simp) rfl _ rfl
              have h22 := hd ⟨22, .data⟩ (by simp) rfl _ rfl
              exact jg_run (by rfl) rfl ((wanted_of rfl rfl (hsz 57 (by decide)) h18).trans rfl) (ex_loadA rfl Try.underlying26 rfl (off := (ol + i * 32)) (cs := x.map bv) (by rw [List.length_map, HXK.out.1]; exact size_hash) h22 (fun j' u hu => hm.cell (XcL.out j' u hu) HBL.out)) (Mod.refl _ _) rfl
            · intro tr act w' hm hout hsz hd hG hk hub
              have h18 := hd ⟨18, .guard⟩ (by simp) rfl _ rfl
              have h19 := hd ⟨19, .data⟩ (by simp) rfl _ rfl
              have h23 := hd ⟨23, .data⟩ (by simp) rfl _ rfl
              have hl := hk 2 rfl
              refine jc_call (args := #[.pointer (some ⟨g, 0, none⟩), hv x]) (by rfl) rfl ((wanted_of rfl rfl (hsz 57 (by decide)) h18).trans rfl) (by rw [ex_callF rfl Try.func30 (by kernel_rfl) (by kernel_rfl)]; exact congrArg (fun z => Result.ok (Next.enter _ z) _) (by simp only [List.map_toArray, List.map_cons, List.map_nil, show act.eval (.tmp 58) = _ from h19, show act.eval (.tmp 62) = _ from h23]; try rfl)) (Set_has (hG.at hl) HXK.out) ?_
              rintro e w2 ⟨rfl, hm2⟩
              exact ⟨_, rfl, hm2.mono (fun _ _ h => h.elim), congrArg Value.bool (by rw [mhas_put, decide_eq_true rfl]; rfl), ByLen.on hl (StSt_still 2 tr _ _ (hG.at hl) hm2)⟩
            · intro tr act w' hm hout hsz hd hG hk hub
              have h18 := hd ⟨18, .guard⟩ (by simp) rfl _ rfl
              have h24 := hd ⟨24, .data⟩ (by simp) rfl _ rfl
              exact jg_run (by rfl) rfl ((wanted_of rfl rfl (hsz 57 (by decide)) h18).trans rfl) (ex_not rfl h24) (Mod.refl _ _) rfl
            · intro tr act w' hm hout hsz hd hG hk hub
              have h18 := hd ⟨18, .data⟩ (by simp) rfl _ rfl
              have h25 := hd ⟨25, .data⟩ (by simp) rfl _ rfl
              exact jg_run (by rfl) rfl (wanted_none rfl) (ex_pick rfl h18 rfl h25) (Mod.refl _ _) rfl
            intro vs tr w5 hl htl hm hG hV
            obtain ⟨v0, vs0, rfl, hl0⟩ := list_cons hl
            obtain ⟨v1, vs1, rfl, hl1⟩ := list_cons hl0
            obtain ⟨v2, vs2, rfl, hl2⟩ := list_cons hl1
            obtain ⟨v3, vs3, rfl, hl3⟩ := list_cons hl2
            obtain ⟨v4, vs4, rfl, hl4⟩ := list_cons hl3
            obtain ⟨v5, vs5, rfl, hl5⟩ := list_cons hl4
            obtain ⟨v6, vs6, rfl, hl6⟩ := list_cons hl5
            obtain ⟨v7, vs7, rfl, hl7⟩ := list_cons hl6
            obtain ⟨v8, vs8, rfl, hl8⟩ := list_cons hl7
            obtain ⟨v9, vs9, rfl, hl9⟩ := list_cons hl8
            obtain ⟨v10, vs10, rfl, hl10⟩ := list_cons hl9
            obtain ⟨v11, vs11, rfl, hl11⟩ := list_cons hl10
            obtain ⟨v12, vs12, rfl, hl12⟩ := list_cons hl11
            obtain ⟨v13, vs13, rfl, hl13⟩ := list_cons hl12
            obtain ⟨v14, vs14, rfl, hl14⟩ := list_cons hl13
            obtain ⟨v15, vs15, rfl, hl15⟩ := list_cons hl14
            obtain ⟨v16, vs16, rfl, hl16⟩ := list_cons hl15
            obtain ⟨v17, vs17, rfl, hl17⟩ := list_cons hl16
            obtain ⟨v18, vs18, rfl, hl18⟩ := list_cons hl17
            obtain ⟨v19, vs19, rfl, hl19⟩ := list_cons hl18
            obtain ⟨v20, vs20, rfl, hl20⟩ := list_cons hl19
            obtain ⟨v21, vs21, rfl, hl21⟩ := list_cons hl20
            obtain ⟨v22, vs22, rfl, hl22⟩ := list_cons hl21
            obtain ⟨v23, vs23, rfl, hl23⟩ := list_cons hl22
            obtain ⟨v24, vs24, rfl, hl24⟩ := list_cons hl23
            obtain ⟨v25, vs25, rfl, hl25⟩ := list_cons hl24
            obtain ⟨v26, vs26, rfl, hl26⟩ := list_cons hl25
            obtain rfl := list_nil hl26
            clear hl hl0 hl1 hl2 hl3 hl4 hl5 hl6 hl7 hl8 hl9 hl10 hl11 hl12 hl13 hl14 hl15 hl16 hl17 hl18 hl19 hl20 hl21 hl22 hl23 hl24 hl25 hl26
            obtain rfl : v26 = .bool false := hV 26 _ rfl
            have ha0 := HA0.out
            subst ha0
            clear HA0 hV hsz0 oe0 oe3 oe5 oe6
            simp only [putAll, Act.put, List.setIfInBounds_toArray, List.set_cons_zero, List.set_cons_succ]
            have HS2 := Lib.hid (show SetIs w5 g b (prs D) by have := hG.at htl; rw [prs_put, if_pos HXI.out] at this; exact this)
            have HDk := Lib.hid (Own.mod HDj.out hm (fun k hk => (HBO.out k hk).1))
            have KMk := Lib.hid (KMj.out.trans hm (fun k h1 h2 => by omega))
            clear hG hm htl HS0 HDj KMj XcL
            go_wp2_with fail
            refine (Set_len HS2.out).mono ?_
            rintro e w6 ⟨rfl, hm6⟩
            have HS3 := Lib.hid (HS2.out.mod hm6 (fun h => h) (fun h => h))
            have HDm := Lib.hid (Own.mod HDk.out hm6 (fun _ _ h => h))
            have KM6 := Lib.hid (KMk.out.trans hm6 (fun _ _ h => h))
            have hpl : (prs D).length = D.length := by simp [prs]
            rw [hpl]
            clear hm6 HS2 HDk KMk hpl
            go_wp2
            go_roundw
            case rel => exact ⟨i + 1, by go_num, HIL.out, by omega, by rw [HEQ.out]; exact HDm.out, HOW.out, by rw [HEQ.out]; exact HS3.out, KM6.out⟩
            case measure => first | (simp [intOf]; done) | (simp [intOf]; omega)
          | false =>
            have EIN := Lib.hid (show mhas (prs D) x = false by rw [prs_has]; exact hxi)
            have HXI := Lib.hid (of_decide_eq_false hxi)
            have HEQ := Lib.hid (show ddTo L (i + 1) = D ++ [x] by rw [HSU.out, ← HX.out, ← HDE.out, if_neg HXI.out])
            clear hxi
            go_upto_region 14 with (fail)
            generalize ha0 : Act.mk _ _ = a0
            have oe0 : a0.eval (.tmp 0) = .slice (some ⟨gl, ol, none⟩) L.length capl := by rw [← ha0]; rfl
            have oe3 : a0.eval (.tmp 3) = .pointer (some ⟨g, 0, none⟩) := by rw [← ha0]; rfl
            have oe5 : a0.eval (.tmp 5) = .int .i64 (i : Nat) := by rw [← ha0]; rfl
            have oe6 : a0.eval (.tmp 6) = .bool false := by rw [← ha0]; rfl
            have hsz0 : a0.tmps.size = 81 := by rw [← ha0]; rfl
            have HA0 := Lib.hid ha0
            clear ha0
            refine wp_region_G 81 hsz0 (by kernel_rfl) (by kernel_rfl) [39, 40, 41, 42, 43, 44, 45, 46, 47, 48, 49, 50, 51, 52, 53, 54, 55, 56, 57, 58, 59, 60, 61, 62, 63, 64, 65] (by kernel_rfl) (by decide) (fun k => k = b) (fun k j => k = 1 ∧ j = b) (fun _ _ h => h.2) Still (fun _ _ _ h => h) (fun _ _ _ hm h => hm.trans h (fun _ _ h => h.elim)) [gi (.pointer (some ⟨g, 0, none⟩)), gi (.slice (some ⟨gl, ol, none⟩) L.length capl), gi (.int .i64 (i : Nat)), gi (.pointer (some ⟨gl, ol + i * 32, none⟩)), gi (hv x), gi (.bool false), gi (.bool false), gi (.bool false), gi (.bool false), gi (.pointer (some ⟨g, 0, none⟩)), gi (.slice (some ⟨gl, ol, none⟩) L.length capl), gi (.int .i64 (i : Nat)), gi (.pointer (some ⟨gl, ol + i * 32, none⟩)), gi (hv x), gi (.bool true), gi (.bool false), gi (.bool false), gi (.bool false), gi (.bool false), gi (.pointer (some ⟨g, 0, none⟩)), gi (.slice (some ⟨gl, ol, none⟩) L.length capl), gi (.int .i64 (i : Nat)), gi (.pointer (some ⟨gl, ol + i * 32, none⟩)), gi (hv x), gi (.bool true), gi (.bool false), gi (.bool false)] ⟨gi_stable, gi_stable, gi_stable, gi_stable, gi_stable, gi_stable, gi_stable, gi_stable, gi_stable, gi_stable, gi_stable, gi_stable, gi_stable, gi_stable, gi_stable, gi_stable, gi_stable, gi_stable, gi_stable, gi_stable, gi_stable, gi_stable, gi_stable, gi_stable, gi_stable, gi_stable, gi_stable, trivial⟩ [5, 14, 24] (by kernel_rfl) (by decide) (by kernel_rfl) (ByLen (StSt g b (prs D) (mput (prs D) x ()))) (ByLen.still StSt_still) HS0.out ⟨?_, ?_, ?_, ?_, ?_, ?_, ?_, ?_, ?_, ?_, ?_, ?_, ?_, ?_, ?_, ?_, ?_, ?_, ?_, ?_, ?_, ?_, ?_, ?_, ?_, ?_, ?_, trivial⟩ ?_
            · intro tr act w' hm hout hsz hd hG hk hub
              exact jg_run (by rfl) rfl (wanted_none rfl) (ex_move rfl ((hout 3 (by decide)).trans oe3)) (Mod.refl _ _) rfl
            · intro tr act w' hm hout hsz hd hG hk hub
              exact jg_run (by rfl) rfl (wanted_none rfl) (ex_move rfl ((hout 0 (by decide)).trans oe0)) (Mod.refl _ _) rfl
            · intro tr act w' hm hout hsz hd hG hk hub
              exact jg_run (by rfl) rfl (wanted_none rfl) (ex_move rfl ((hout 5 (by decide)).trans oe5)) (Mod.refl _ _) rfl
            · intro tr act w' hm hout hsz hd hG hk hub
              have h1 := hd ⟨1, .data⟩ (by simp) rfl _ rfl
              have h2 := hd ⟨2, .data⟩ (by simp) rfl _ rfl
              exact jg_run (by rfl) rfl (wanted_none rfl) (ex_idxS rfl Try.underlying82 (by kernel_rfl) h1 h2 HIL.out) (Mod.refl _ _) rfl
            · intro tr act w' hm hout hsz hd hG hk hub
              have h3 := hd ⟨3, .data⟩ (by simp) rfl _ rfl
              exact jg_run (by rfl) rfl (wanted_none rfl) (ex_loadA rfl Try.underlying26 rfl (off := (ol + i * 32)) (cs := x.map bv) (by rw [List.length_map, HXK.out.1]; exact size_hash) h3 (fun j' u hu => hm.cell (XcL.out j' u hu) HBL.out)) (Mod.refl _ _) rfl
            · intro tr act w' hm hout hsz hd hG hk hub
              have h0 := hd ⟨0, .data⟩ (by simp) rfl _ rfl
              have h4 := hd ⟨4, .data⟩ (by simp) rfl _ rfl
              have hl := hk 0 rfl
              refine jc_call (args := #[.pointer (some ⟨g, 0, none⟩), hv x]) (by rfl) rfl (wanted_none rfl) (by rw [ex_callF rfl Try.func30 (by kernel_rfl) (by kernel_rfl)]; exact congrArg (fun z => Result.ok (Next.enter _ z) _) (by simp only [List.map_toArray, List.map_cons, List.map_nil, show act.eval (.tmp 39) = _ from h0, show act.eval (.tmp 43) = _ from h4]; try rfl)) (Set_has (hG.at hl) HXK.out) ?_
              rintro e w2 ⟨rfl, hm2⟩
              exact ⟨_, rfl, hm2.mono (fun _ _ h => h.elim), congrArg Value.bool EIN.out, ByLen.on hl (StSt_still 0 tr _ _ (hG.at hl) hm2)⟩
            · intro tr act w' hm hout hsz hd hG hk hub
              exact jg_run (by rfl) rfl (wanted_none rfl) (ex_move rfl ((hout 6 (by decide)).trans oe6)) (Mod.refl _ _) rfl
            · intro tr act w' hm hout hsz hd hG hk hub
              have h5 := hd ⟨5, .data⟩ (by simp) rfl _ rfl
              have h6 := hd ⟨6, .data⟩ (by simp) rfl _ rfl
              exact jg_run (by rfl) rfl (wanted_none rfl) (ex_bin rfl h5 h6 (guard_bools _ _ _ _ _ _) (run_neq_bools _ _ _ Try.underlying4)) (Mod.refl _ _) rfl
            · intro tr act w' hm hout hsz hd hG hk hub
              have h7 := hd ⟨7, .data⟩ (by simp) rfl _ rfl
              exact jg_run (by rfl) rfl (wanted_none rfl) (ex_move rfl h7) (Mod.refl _ _) rfl
            · intro tr act w' hm hout hsz hd hG hk hub
              have h8 := hd ⟨8, .guard⟩ (by simp) rfl _ rfl
              exact jg_run (by rfl) rfl ((wanted_of rfl rfl (hsz 47 (by decide)) h8).trans rfl) (ex_move rfl ((hout 3 (by decide)).trans oe3)) (Mod.refl _ _) rfl
            · intro tr act w' hm hout hsz hd hG hk hub
              have h8 := hd ⟨8, .guard⟩ (by simp) rfl _ rfl
              exact jg_run (by rfl) rfl ((wanted_of rfl rfl (hsz 47 (by decide)) h8).trans rfl) (ex_move rfl ((hout 0 (by decide)).trans oe0)) (Mod.refl _ _) rfl
            · intro tr act w' hm hout hsz hd hG hk hub
              have h8 := hd ⟨8, .guard⟩ (by simp) rfl _ rfl
              exact jg_run (by rfl) rfl ((wanted_of rfl rfl (hsz 47 (by decide)) h8).trans rfl) (ex_move rfl ((hout 5 (by decide)).trans oe5)) (Mod.refl _ _) rfl
            · intro tr act w' hm hout hsz hd hG hk hub
              have h8 := hd ⟨8, .guard⟩ (by simp) rfl _ rfl
              have h10 := hd ⟨10, .data⟩ (by simp) rfl _ rfl
              have h11 := hd ⟨11, .data⟩ (by simp) rfl _ rfl
              exact jg_run (by rfl) rfl ((wanted_of rfl rfl (hsz 47 (by decide)) h8).trans rfl) (ex_idxS rfl Try.underlying82 (by kernel_rfl) h10 h11 HIL.out) (Mod.refl _ _) rfl
            · intro tr act w' hm hout hsz hd hG hk hub
              have h8 := hd ⟨8, .guard⟩ (by simp) rfl _ rfl
              have h12 := hd ⟨12, .data⟩ (by simp) rfl _ rfl
              exact jg_run (by rfl) rfl ((wanted_of rfl rfl (hsz 47 (by decide)) h8).trans rfl) (ex_loadA rfl Try.underlying26 rfl (off := (ol + i * 32)) (cs := x.map bv) (by rw [List.length_map, HXK.out.1]; exact size_hash) h12 (fun j' u hu => hm.cell (XcL.out j' u hu) HBL.out)) (Mod.refl _ _) rfl
            · intro tr act w' hm hout hsz hd hG hk hub
              have h8 := hd ⟨8, .guard⟩ (by simp) rfl _ rfl
              have h9 := hd ⟨9, .data⟩ (by simp) rfl _ rfl
              have h13 := hd ⟨13, .data⟩ (by simp) rfl _ rfl
              have hl := hk 1 rfl
              refine jc_call (args := #[.pointer (some ⟨g, 0, none⟩), hv x]) (by rfl) rfl ((wanted_of rfl rfl (hsz 47 (by decide)) h8).trans rfl) (by rw [ex_callF rfl Try.func31 (by kernel_rfl) (by kernel_rfl)]; exact congrArg (fun z => Result.ok (Next.enter _ z) _) (by simp only [List.map_toArray, List.map_cons, List.map_nil, show act.eval (.tmp 48) = _ from h9, show act.eval (.tmp 52) = _ from h13]; try rfl)) (Set_add (hG.at hl) HXK.out) ?_
              rintro e w2 ⟨rfl, hs2, hm2⟩
              exact ⟨_, rfl, hm2.mono (fun _ _ h => ⟨hl, h⟩), congrArg (fun z => Value.bool (!z)) EIN.out, ByLen.on hl hs2⟩
            · intro tr act w' hm hout hsz hd hG hk hub
              have h8 := hd ⟨8, .guard⟩ (by simp) rfl _ rfl
              exact jg_run (by rfl) rfl ((wanted_of rfl rfl (hsz 47 (by decide)) h8).trans rfl) (ex_move rfl ((hout 6 (by decide)).trans oe6)) (Mod.refl _ _) rfl
            · intro tr act w' hm hout hsz hd hG hk hub
              have h8 := hd ⟨8, .guard⟩ (by simp) rfl _ rfl
              have h14 := hd ⟨14, .data⟩ (by simp) rfl _ rfl
              have h15 := hd ⟨15, .data⟩ (by simp) rfl _ rfl
              exact jg_run (by rfl) rfl ((wanted_of rfl rfl (hsz 47 (by decide)) h8).trans rfl) (ex_bin rfl h14 h15 (guard_bools _ _ _ _ _ _) (run_eql_bools _ _ _ Try.underlying4)) (Mod.refl _ _) rfl
            · intro tr act w' hm hout hsz hd hG hk hub
              have h8 := hd ⟨8, .data⟩ (by simp) rfl _ rfl
              have h16 := hd ⟨16, .data⟩ (by simp) rfl _ rfl
              exact jg_run (by rfl) rfl (wanted_none rfl) (ex_pick rfl h8 rfl h16) (Mod.refl _ _) rfl
            · intro tr act w' hm hout hsz hd hG hk hub
              have h17 := hd ⟨17, .data⟩ (by simp) rfl _ rfl
              exact jg_run (by rfl) rfl (wanted_none rfl) (ex_move rfl h17) (Mod.refl _ _) rfl
            · intro tr act w' hm hout hsz hd hG hk hub
              have h18 := hd ⟨18, .guard⟩ (by simp) rfl _ rfl
              exact jg_run (by rfl) rfl ((wanted_of rfl rfl (hsz 57 (by decide)) h18).trans rfl) (ex_move rfl ((hout 3 (by decide)).trans oe3)) (Mod.refl _ _) rfl
            · intro tr act w' hm hout hsz hd hG hk hub
              have h18 := hd ⟨18, .guard⟩ (by simp) rfl _ rfl
              exact jg_run (by rfl) rfl ((wanted_of rfl rfl (hsz 57 (by decide)) h18).trans rfl) (ex_move rfl ((hout 0 (by decide)).trans oe0)) (Mod.refl _ _) rfl
            · intro tr act w' hm hout hsz hd hG hk hub
              have h18 := hd ⟨18, .guard⟩ (by simp) rfl _ rfl
              exact jg_run (by rfl) rfl ((wanted_of rfl rfl (hsz 57 (by decide)) h18).trans rfl) (ex_move rfl ((hout 5 (by decide)).trans oe5)) (Mod.refl _ _) rfl
            · intro tr act w' hm hout hsz hd hG hk hub
              have h18 := hd ⟨18, .guard⟩ (by simp) rfl _ rfl
              have h20 := hd ⟨20, .data⟩ (by simp) rfl _ rfl
              have h21 := hd ⟨21, .data⟩ (by simp) rfl _ rfl
              exact jg_run (by rfl) rfl ((wanted_of rfl rfl (hsz 57 (by decide)) h18).trans rfl) (ex_idxS rfl Try.underlying82 (by kernel_rfl) h20 h21 HIL.out) (Mod.refl _ _) rfl
            · intro tr act w' hm hout hsz hd hG hk hub
              have h18 := hd ⟨18, .guard⟩ (by simp) rfl _ rfl
              have h22 := hd ⟨22, .data⟩ (by simp) rfl _ rfl
              exact jg_run (by rfl) rfl ((wanted_of rfl rfl (hsz 57 (by decide)) h18).trans rfl) (ex_loadA rfl Try.underlying26 rfl (off := (ol + i * 32)) (cs := x.map bv) (by rw [List.length_map, HXK.out.1]; exact size_hash) h22 (fun j' u hu => hm.cell (XcL.out j' u hu) HBL.out)) (Mod.refl _ _) rfl
            · intro tr act w' hm hout hsz hd hG hk hub
              have h18 := hd ⟨18, .guard⟩ (by simp) rfl _ rfl
              have h19 := hd ⟨19, .data⟩ (by simp) rfl _ rfl
              have h23 := hd ⟨23, .data⟩ (by simp) rfl _ rfl
              have hl := hk 2 rfl
              refine jc_call (args := #[.pointer (some ⟨g, 0, none⟩), hv x]) (by rfl) rfl ((wanted_of rfl rfl (hsz 57 (by decide)) h18).trans rfl) (by rw [ex_callF rfl Try.func30 (by kernel_rfl) (by kernel_rfl)]; exact congrArg (fun z => Result.ok (Next.enter _ z) _) (by simp only [List.map_toArray, List.map_cons, List.map_nil, show act.eval (.tmp 58) = _ from h19, show act.eval (.tmp 62) = _ from h23]; try rfl)) (Set_has (hG.at hl) HXK.out) ?_
              rintro e w2 ⟨rfl, hm2⟩
              exact ⟨_, rfl, hm2.mono (fun _ _ h => h.elim), congrArg Value.bool (by rw [mhas_put, decide_eq_true rfl]; rfl), ByLen.on hl (StSt_still 2 tr _ _ (hG.at hl) hm2)⟩
            · intro tr act w' hm hout hsz hd hG hk hub
              have h18 := hd ⟨18, .guard⟩ (by simp) rfl _ rfl
              have h24 := hd ⟨24, .data⟩ (by simp) rfl _ rfl
              exact jg_run (by rfl) rfl ((wanted_of rfl rfl (hsz 57 (by decide)) h18).trans rfl) (ex_not rfl h24) (Mod.refl _ _) rfl
            · intro tr act w' hm hout hsz hd hG hk hub
              have h18 := hd ⟨18, .data⟩ (by simp) rfl _ rfl
              have h25 := hd ⟨25, .data⟩ (by simp) rfl _ rfl
              exact jg_run (by rfl) rfl (wanted_none rfl) (ex_pick rfl h18 rfl h25) (Mod.refl _ _) rfl
            intro vs tr w5 hl htl hm hG hV
            obtain ⟨v0, vs0, rfl, hl0⟩ := list_cons hl
            obtain ⟨v1, vs1, rfl, hl1⟩ := list_cons hl0
            obtain ⟨v2, vs2, rfl, hl2⟩ := list_cons hl1
            obtain ⟨v3, vs3, rfl, hl3⟩ := list_cons hl2
            obtain ⟨v4, vs4, rfl, hl4⟩ := list_cons hl3
            obtain ⟨v5, vs5, rfl, hl5⟩ := list_cons hl4
            obtain ⟨v6, vs6, rfl, hl6⟩ := list_cons hl5
            obtain ⟨v7, vs7, rfl, hl7⟩ := list_cons hl6
            obtain ⟨v8, vs8, rfl, hl8⟩ := list_cons hl7
            obtain ⟨v9, vs9, rfl, hl9⟩ := list_cons hl8
            obtain ⟨v10, vs10, rfl, hl10⟩ := list_cons hl9
            obtain ⟨v11, vs11, rfl, hl11⟩ := list_cons hl10
            obtain ⟨v12, vs12, rfl, hl12⟩ := list_cons hl11
            obtain ⟨v13, vs13, rfl, hl13⟩ := list_cons hl12
            obtain ⟨v14, vs14, rfl, hl14⟩ := list_cons hl13
            obtain ⟨v15, vs15, rfl, hl15⟩ := list_cons hl14
            obtain ⟨v16, vs16, rfl, hl16⟩ := list_cons hl15
            obtain ⟨v17, vs17, rfl, hl17⟩ := list_cons hl16
            obtain ⟨v18, vs18, rfl, hl18⟩ := list_cons hl17
            obtain ⟨v19, vs19, rfl, hl19⟩ := list_cons hl18
            obtain ⟨v20, vs20, rfl, hl20⟩ := list_cons hl19
            obtain ⟨v21, vs21, rfl, hl21⟩ := list_cons hl20
            obtain ⟨v22, vs22, rfl, hl22⟩ := list_cons hl21
            obtain ⟨v23, vs23, rfl, hl23⟩ := list_cons hl22
            obtain ⟨v24, vs24, rfl, hl24⟩ := list_cons hl23
            obtain ⟨v25, vs25, rfl, hl25⟩ := list_cons hl24
            obtain ⟨v26, vs26, rfl, hl26⟩ := list_cons hl25
            obtain rfl := list_nil hl26
            clear hl hl0 hl1 hl2 hl3 hl4 hl5 hl6 hl7 hl8 hl9 hl10 hl11 hl12 hl13 hl14 hl15 hl16 hl17 hl18 hl19 hl20 hl21 hl22 hl23 hl24 hl25 hl26
            obtain rfl : v26 = .bool false := hV 26 _ rfl
            have ha0 := HA0.out
            subst ha0
            clear HA0 hV hsz0 oe0 oe3 oe5 oe6
            simp only [putAll, Act.put, List.setIfInBounds_toArray, List.set_cons_zero, List.set_cons_succ]
            have HS2 := Lib.hid (show SetIs w5 g b (prs (D ++ [x])) by have := hG.at htl; rw [prs_put, if_neg HXI.out] at this; exact this)
            have HDk := Lib.hid (Own.mod HDj.out hm (fun k hk => (HBO.out k hk).1))
            have KMk := Lib.hid (KMj.out.trans hm (fun k h1 h2 => by omega))
            have XcL3 := Lib.hid (fun j' u hu => hm.cell (XcL.out j' u hu) HBL.out)
            have z5 := hm.size
            clear hG hm htl HS0 HDj KMj XcL
            have XcL := Lib.hid XcL3.out
            obtain ⟨wj, rfl⟩ : ∃ z, z = w5 := ⟨_, rfl⟩
            obtain ⟨t4, ht4⟩ : ∃ t4, t4 = Value.slice aod D.length capd := ⟨_, rfl⟩
            have HD := Lib.hid (show HsO wj t4 D by rw [ht4]; exact HDk.out)
            have HLO2 := Lib.hid (show ¬ (some gl = t4.ownBlock) by rw [ht4]; exact HLO.out)
            have HT4 := Lib.hid ht4
            rw [← ht4]
            clear XcL3 HDk HLO ht4
            have HLO := Lib.hid HLO2.out
            clear HLO2
            go_upto_region 17 with (fail)
            generalize ha0 : Act.mk _ _ = a0
            have oe0 : a0.eval (.tmp 0) = .slice (some ⟨gl, ol, none⟩) L.length capl := by rw [← ha0]; rfl
            have oe4 : a0.eval (.tmp 4) = t4 := by rw [← ha0]; rfl
            have oe5 : a0.eval (.tmp 5) = .int .i64 (i : Nat) := by rw [← ha0]; rfl
            have hsz0 : a0.tmps.size = 81 := by rw [← ha0]; rfl
            have HA0 := Lib.hid ha0
            clear ha0
            refine wp_region_H 81 hsz0 (by kernel_rfl) (by kernel_rfl) [68, 69, 70, 71, 72, 73, 74, 4] (by kernel_rfl) (by decide) (fun k => some k = t4.ownBlock) (fun _ k => some k = t4.ownBlock) (fun _ _ h => h) Still (fun _ _ _ h => h) (fun _ _ _ hm h => hm.trans h (fun _ _ h => h.elim)) [gi (t4), gi (.slice (some ⟨gl, ol, none⟩) L.length capl), gi (.int .i64 (i : Nat)), gi (.pointer (some ⟨gl, ol + i * 32, none⟩)), gi (hv x), (fun t v w => t.length = 0 → ∃ k, v = .slice (some ⟨k, 0, none⟩) 1 1 ∧ wj.heap.size ≤ k ∧ Cs w k (x.map bv).toArray 26), gv 0, gv 0] ⟨gi_stable, gi_stable, gi_stable, gi_stable, gi_stable, ⟨fun _ _ _ _ h hr h0 => by obtain ⟨k, e1, e2, e3⟩ := h h0; exact ⟨k, e1, e2, e3.mod hr (fun h => h)⟩, fun _ _ _ _ _ _ _ h0 => by simp at h0⟩, gv_stable, gv_stable, trivial⟩ [6] (by kernel_rfl) (by decide) (by kernel_rfl) (ByLen (ApSt wj t4 D x)) (ByLen.still ApSt_still) ⟨Nat.le_refl _, HD.out⟩ ⟨?_, ?_, ?_, ?_, ?_, ?_, ?_, ?_, trivial⟩ ?_
            · intro tr act w' hm hout hsz hd hG hk hub hpre
              exact jg_run (by rfl) rfl (wanted_none rfl) (ex_move rfl ((hpre 7 4 rfl (by kernel_rfl)).trans oe4)) (Mod.refl _ _) rfl
            · intro tr act w' hm hout hsz hd hG hk hub hpre
              exact jg_run (by rfl) rfl (wanted_none rfl) (ex_move rfl ((hout 0 (by decide)).trans oe0)) (Mod.refl _ _) rfl
            · intro tr act w' hm hout hsz hd hG hk hub hpre
              exact jg_run (by rfl) rfl (wanted_none rfl) (ex_move rfl ((hout 5 (by decide)).trans oe5)) (Mod.refl _ _) rfl
            · intro tr act w' hm hout hsz hd hG hk hub hpre
              have h1 := hd ⟨1, .data⟩ (by simp) rfl _ rfl
              have h2 := hd ⟨2, .data⟩ (by simp) rfl _ rfl
              exact jg_run (by rfl) rfl (wanted_none rfl) (ex_idxS rfl Try.underlying82 (by kernel_rfl) h1 h2 HIL.out) (Mod.refl _ _) rfl
            · intro tr act w' hm hout hsz hd hG hk hub hpre
              have h3 := hd ⟨3, .data⟩ (by simp) rfl _ rfl
              exact jg_run (by rfl) rfl (wanted_none rfl) (ex_loadA rfl Try.underlying26 rfl (off := (ol + i * 32)) (cs := x.map bv) (by rw [List.length_map, HXK.out.1]; exact size_hash) h3 (fun j' u hu => hm.cell (XcL.out j' u hu) HLO.out)) (Mod.refl _ _) rfl
            · intro tr act w' hm hout hsz hd hG hk hub hpre
              have h4 := hd ⟨4, .data⟩ (by simp) rfl _ rfl
              exact jg_run (by rfl) rfl (wanted_none rfl) (ex_buildS1 (s := 32) rfl Try.underlying82 (zc := (List.replicate 32 0).map bv) (by kernel_rfl) (by simp) (by decide) (by decide) h4 (by rw [List.length_map, HXK.out.1])) ((Mod.refl _ _).alloc _) (fun _ => ⟨_, rfl, hm.size, Cs.new _ _ _⟩)
            · intro tr act w' hm hout hsz hd hG hk hub hpre
              have h0 := hd ⟨0, .data⟩ (by simp) rfl _ rfl
              have h5 := hd ⟨5, .data⟩ (by simp) rfl _ rfl
              have hl := hk 0 rfl
              obtain ⟨k, e1, e2, e3⟩ := h5 hl
              obtain ⟨ao', cap', w'', hr, hap1, hap2, hap3⟩ := hash_append (hG.at hl).2 e3 HXK.out HDN.out
              exact jc_run (by rfl) rfl (wanted_none rfl) (ex_append rfl h0 e1 hr) hap2 (gv_new tr _ w'' hl) (ByLen.on hl ⟨Nat.le_trans (hG.at hl).1 hap2.size, ao', cap', by rw [List.getElem?_append_right (by omega), hl]; rfl, hap1, hap3.imp id (fun ⟨k, h1, h2⟩ => ⟨k, h1, Nat.le_trans (hG.at hl).1 h2⟩)⟩)
            · intro tr act w' hm hout hsz hd hG hk hub hpre
              have h6 := hd ⟨6, .data⟩ (by simp) rfl _ rfl
              exact jg_run (by rfl) rfl (wanted_none rfl) (ex_assign rfl rfl) (Mod.refl _ _) h6
            intro vs tr w7 hl htl hm hG hV
            obtain ⟨v0, vs0, rfl, hl0⟩ := list_cons hl
            obtain ⟨v1, vs1, rfl, hl1⟩ := list_cons hl0
            obtain ⟨v2, vs2, rfl, hl2⟩ := list_cons hl1
            obtain ⟨v3, vs3, rfl, hl3⟩ := list_cons hl2
            obtain ⟨v4, vs4, rfl, hl4⟩ := list_cons hl3
            obtain ⟨v5, vs5, rfl, hl5⟩ := list_cons hl4
            obtain ⟨v6, vs6, rfl, hl6⟩ := list_cons hl5
            obtain ⟨v7, vs7, rfl, hl7⟩ := list_cons hl6
            obtain rfl := list_nil hl7
            clear hl hl0 hl1 hl2 hl3 hl4 hl5 hl6 hl7
            have f6 := hV 6 _ rfl
            have f7 := hV 7 _ rfl
            have ha0 := HA0.out
            subst ha0
            clear HA0 hV hsz0 oe0 oe4 oe5
            simp only [putAll, Act.put, List.setIfInBounds_toArray, List.set_cons_zero, List.set_cons_succ]
            obtain ⟨h0, ao7, cap7, f6', hD7, hb7⟩ := hG.at htl
            obtain rfl : v6 = _ := Option.some.inj (Eq.trans (Eq.symm f6) f6')
            obtain rfl : v7 = _ := Option.some.inj (Eq.trans (Eq.symm f7) f6')
            have HD7 := Lib.hid hD7
            have HOW7 := Lib.hid (show ∀ k, (Value.slice ao7 (D.length + 1) cap7).ownBlock = some k → w.heap.size ≤ k ∧ k ≠ g ∧ k ≠ b from fun k hk => by
              rcases hb7 with hb7 | ⟨k', h1, h2⟩
              · rw [hb7, HT4.out] at hk; exact HOW.out k hk
              · rw [h1] at hk; cases hk; have := KMk.out.size; have := HS2.out.cell.lt; have := HS2.out.map.lt; refine ⟨by omega, by omega, by omega⟩)
            have HS4 := Lib.hid (HS2.out.mod hm (fun h => by rw [HT4.out] at h; exact (HBO.out g h.symm).2 rfl) (fun h => by rw [HT4.out] at h; exact (HBO.out b h.symm).1 rfl))
            have KM7 := Lib.hid (KMk.out.trans hm (fun k h1 h2 => by rw [HT4.out] at h2; have := (HOW.out k h2.symm).1; omega))
            clear hG hm htl h0 f6 f7 f6' hD7 hb7 HS2 HD KMk XcL
            go_wp2_with fail
            refine (Set_len HS4.out).mono ?_
            rintro e w8 ⟨rfl, hm8⟩
            have HS9 := Lib.hid (HS4.out.mod hm8 (fun h => h) (fun h => h))
            have HD9 := Lib.hid (Own.mod HD7.out hm8 (fun _ _ h => h))
            have KM9 := Lib.hid (KM7.out.trans hm8 (fun _ _ h => h))
            have hpl : (prs (D ++ [x])).length = D.length + 1 := by simp [prs]
            rw [hpl]
            clear hm8 HS4 HD7 KM7 hpl
            go_wp2
            go_roundw
            case rel => exact ⟨i + 1, by go_num, HIL.out, by omega, by rw [HEQ.out]; exact HD9.out, HOW7.out, by rw [HEQ.out]; exact HS9.out, KM9.out⟩
            case measure => first | (simp [intOf]; done) | (simp [intOf]; omega)
    · by_cases hi1 : i < L.length
      · have hii1 : (i : Int) < (L.length : Int) := by omega
        have hii2 : ¬ (i : Int) < 30 := by omega
        clear hin
        go_wp2_with fail
        refine (wakes02 _).mono ?_
        rintro e w9 ⟨rfl, hm9⟩
        have KM9 := Lib.hid (KMw.out.trans hm9 (fun _ _ h => h))
        clear hm9
        go_wp2
        go_ret
        exact ⟨rfl, KM9.out⟩
      · have hii1 : ¬ (i : Int) < (L.length : Int) := by omega
        clear hin
        go_wp2_with fail
        refine (wakes02 _).mono ?_
        rintro e w9 ⟨rfl, hm9⟩
        have KM9 := Lib.hid (KMw.out.trans hm9 (fun _ _ h => h))
        clear hm9
        go_wp2
        go_ret
        exact ⟨rfl, KM9.out⟩
end Go.Proofs.Ytfgepphankfbfaa
