/- sha.spread: a block as 64 words. -/
import Derived.Test.YtknpapcfhnhheaaSha1
import Derived.Test.YtknpapcfhnhheaaMem
import Derived.Deep.Cut
set_option maxRecDepth 100000
set_option linter.unusedVariables false
namespace Go.Proofs.Ytknpapcfhnhheaa
open Go Go.RowKit Go.Gv

def wAt (bs : List Int) (i : Nat) : Int := wordOf (bs.getD (4 * i) 0) (bs.getD (4 * i + 1) 0) (bs.getD (4 * i + 2) 0) (bs.getD (4 * i + 3) 0)
def w16 (bs : List Int) (i : Nat) : List Int := (List.range i).map (wAt bs) ++ List.replicate (64 - i) 0
def spVal (p x q y : Int) : Int := pl (pl (pl p (xr (xr (rr 7 x) (rr 18 x)) (x / 8))) q) (xr (xr (rr 17 y) (rr 19 y)) (y / 1024))
def spStep (ws : List Int) (j : Nat) : List Int := ws.set (j + 16) (spVal (ws.getD j 0) (ws.getD (j + 1) 0) (ws.getD (j + 9) 0) (ws.getD (j + 14) 0))
def spTo (bs : List Int) (j : Nat) : List Int := (List.range j).foldl spStep (w16 bs 16)
def spreadF (bs : List Int) : List Int := spTo bs 48
theorem w16_len (bs : List Int) (i : Nat) (h : i ≤ 64) : (w16 bs i).length = 64 := by simp [w16]; omega
theorem w16_succ (bs : List Int) (i : Nat) (h : i < 64) : (w16 bs i).set i (wAt bs i) = w16 bs (i + 1) := by
  unfold w16
  rw [List.set_append_right _ _ (by simp), List.length_map, List.length_range, Nat.sub_self, List.range_succ, List.map_append, List.append_assoc]
  congr 1
  obtain ⟨k, hk⟩ : ∃ k, 64 - i = k + 1 := ⟨63 - i, by omega⟩
  rw [hk, show 64 - (i + 1) = k by omega, List.replicate_succ]
  rfl
theorem spTo_succ (bs : List Int) (j : Nat) : spTo bs (j + 1) = spStep (spTo bs j) j := by unfold spTo; rw [List.range_succ, List.foldl_append]; rfl
theorem spTo_len (bs : List Int) (j : Nat) : (spTo bs j).length = 64 := by
  induction j with
  | zero => exact w16_len bs 16 (by omega)
  | succ j ih => rw [spTo_succ, spStep, List.length_set, ih]
theorem spreadF_len (bs : List Int) : (spreadF bs).length = 64 := spTo_len bs 48
theorem drop4 (bs : List Int) (i : Nat) (h : 4 * i + 4 ≤ bs.length) : bs.drop (4 * i) = bs.getD (4 * i) 0 :: bs.getD (4 * i + 1) 0 :: bs.getD (4 * i + 2) 0 :: bs.getD (4 * i + 3) 0 :: bs.drop (4 * i + 4) := by
  rw [List.drop_eq_getElem_cons (by omega), List.drop_eq_getElem_cons (by omega), List.drop_eq_getElem_cons (by omega), List.drop_eq_getElem_cons (by omega)]
  simp [List.getD, show 4 * i < bs.length by omega, show 4 * i + 1 < bs.length by omega, show 4 * i + 2 < bs.length by omega, show 4 * i + 3 < bs.length by omega]

/-- an array of words in a block -/
def Ws (T : TypeId) (w : World) (g : Nat) (ws : List Int) : Prop := Cs w g (ws.map wv).toArray T
theorem Ws.cell {T : TypeId} {w : World} {g : Nat} {ws : List Int} (h : Ws T w g ws) {j : Nat} (hj : j < ws.length) : w.cell? ⟨g, j, none⟩ = some (wv (ws.getD j 0)) := by
  rw [Cs.cell h]; simp [List.getD, List.getElem?_eq_getElem hj]
theorem Ws.mod {T : TypeId} {S : Nat → Prop} {w w' : World} {g : Nat} {ws : List Int} (h : Ws T w g ws) (hm : Mod S w w') (hn : ¬ S g) : Ws T w' g ws := Cs.mod h hm hn
theorem Ws.set {T : TypeId} {w : World} {g : Nat} {ws : List Int} (h : Ws T w g ws) (j : Nat) (x : Int) : Ws T (w.setCell ⟨g, j, none⟩ (wv x)) g (ws.set j x) := by
  have := Cs.set h j (wv x)
  unfold Ws
  simpa [List.map_set] using this
theorem Ws.frozen {T : TypeId} {w : World} {g : Nat} {ws : List Int} (h : Ws T w g ws) (j : Nat) : w.frozen? ⟨g, j, none⟩ = false := Cs.frozen h j
theorem wv_one (ws : List Int) : ∀ u ∈ ws.map wv, u.oneCell' = true := ints_oneCell .u32 ws
theorem size_a64 : (Try.prog.info? 171).map (·.size) = some 64 := by kernel_rfl
theorem size_a8 : (Try.prog.info? 170).map (·.size) = some 8 := by kernel_rfl

set_option maxHeartbeats 2000000 in
theorem spread_any (v : Value) (bs : List Int) (w : World) (h : RdB w v bs) (hbl : ∀ g, v.ownBlock = some g → g < w.heap.size) (h64 : 64 ≤ bs.length) :
    Calls Try.prog 155 #[v] w fun e w' => e = .returned (.agg ((spreadF bs).map wv).toArray) ∧ Mod (fun _ => False) w w' := by
  obtain ⟨ao, cap, rfl, hc, hm⟩ := h.shape
  rw [maxLen_val] at hm
  have HR := Lib.hid h
  have HB := Lib.hid hbl
  clear h hbl
  obtain ⟨zs, hzs⟩ : ∃ zs, zs = List.replicate 64 (0 : Int) := ⟨_, rfl⟩
  obtain ⟨F, hF⟩ : ∃ F, F = spreadF bs := ⟨_, rfl⟩
  rw [← hF]
  have HZ := Lib.hid hzs
  have HFF := Lib.hid hF
  clear hzs hF
  go_enter Try.func155, Try.ntmps155
  go_wp2
  go_loopw [10] (fun t10 wr => ∃ i : Nat, t10 = .int .i64 i ∧ i ≤ 16 ∧ Ws 171 wr w.heap.size zs ∧ Ws 171 wr (w.heap.size + 1) (w16 bs i) ∧ Mod (fun _ => False) w wr) (fun t10 _ => 16 - (intOf t10).toNat)
  case atStart =>
    refine ⟨0, rfl, by omega, ?_, ?_, ?_⟩
    · rw [HZ.out]; exact (Cs.new w _ _).alloc _
    · have e : ∀ o, (w.alloc o).heap.size = w.heap.size + 1 := fun o => by simp
      unfold Ws
      rw [← e (.cells (List.replicate 64 (wv 0)).toArray 171)]
      exact Cs.new _ _ _
    · exact ((Mod.refl _ _).alloc _).alloc _
  case round =>
    obtain ⟨i, rfl, hi, hA, hB, hM⟩ := hrel
    have KA := Lib.hid hA
    have KB := Lib.hid hB
    have KM := Lib.hid hM
    have z0 := hM.size
    have zb := hB.lt
    clear hA hB hM
    by_cases hlt : i < 16
    · have hcap : ¬ cap = 4 * i := by omega
      have hle : 4 * i ≤ bs.length := by omega
      have hrd := RdB.tail_in (HR.out.mod KM.out (fun _ g hg h => h)) (4 * i) hle hcap
      rw [drop4 bs i (by omega)] at hrd
      have HRD := Lib.hid hrd
      clear hrd
      go_wp2_with fail
      refine (word_any _ _ _ _ _ _ _ HRD.out).mono ?_
      rintro e w2 ⟨rfl, hd⟩
      have hm := mod_of_drewN hd (fun _ => False)
      clear hd
      have KA2 := Lib.hid (KA.out.mod hm (fun h => h))
      have KB2 := Lib.hid (KB.out.mod hm (fun h => h))
      have KM2 := Lib.hid (KM.out.trans hm (fun _ _ h => h))
      clear hm KA KB KM
      have hci := KB2.out.cell (j := i) (by rw [w16_len _ _ (by omega)]; omega)
      have hfi := KB2.out.frozen i
      obtain ⟨x, hx⟩ : ∃ x, x = wordOf (bs.getD (4 * i) 0) (bs.getD (4 * i + 1) 0) (bs.getD (4 * i + 2) 0) (bs.getD (4 * i + 3) 0) := ⟨_, rfl⟩
      rw [← hx]
      have HX := Lib.hid hx
      clear hx
      go_wp2
      go_roundw
      case rel =>
        refine ⟨i + 1, by go_num, by omega, KA2.out.other (by simp) _, ?_, KM2.out.setCell (by first | (simp; done) | (simp; omega)) _⟩
        have := KB2.out.set i x
        rw [HX.out, show wordOf (bs.getD (4 * i) 0) (bs.getD (4 * i + 1) 0) (bs.getD (4 * i + 2) 0) (bs.getD (4 * i + 3) 0) = wAt bs i from rfl, w16_succ bs i (by omega)] at this
        rw [HX.out]
        exact this
      case measure => first | (simp [intOf]; done) | (simp [intOf]; omega)
    · obtain rfl : i = 16 := by omega
      rw [show ((16 : Nat) : Int) = 16 from rfl]
      go_wp2
      go_loopw [5] (fun t5 wr => ∃ j : Nat, t5 = .int .i64 ((j + 16 : Nat) : Int) ∧ j ≤ 48 ∧ Ws 171 wr w.heap.size zs ∧ Ws 171 wr (w.heap.size + 1) (spTo bs j) ∧ Mod (fun _ => False) w wr) (fun t5 _ => 64 - (intOf t5).toNat)
      case atStart => exact ⟨0, rfl, by omega, KA.out, KB.out, KM.out⟩
      case round =>
        obtain ⟨wi, rfl⟩ : ∃ x, x = wr := ⟨_, rfl⟩
        obtain ⟨j, rfl, hj, hA, hB, hM⟩ := hrel
        have zz := hM.size
        have zb2 := hB.lt
        clear KA KB KM
        have KA := Lib.hid hA
        have KB := Lib.hid hB
        have KM := Lib.hid hM
        clear hA hB hM
        by_cases hlt2 : j < 48
        · have c1 := KB.out.cell (j := j + 1) (by rw [spTo_len]; omega)
          have c14 := KB.out.cell (j := j + 14) (by rw [spTo_len]; omega)
          obtain ⟨x, hx⟩ : ∃ x, x = (spTo bs j).getD (j + 1) 0 := ⟨_, rfl⟩
          obtain ⟨y, hy⟩ : ∃ y, y = (spTo bs j).getD (j + 14) 0 := ⟨_, rfl⟩
          rw [← hx] at c1
          rw [← hy] at c14
          have HX := Lib.hid hx
          have HY := Lib.hid hy
          clear hx hy
          go_wp2_with fail
          go_quiet (fail)
          clear c1 c14
          obtain ⟨w1, hw1⟩ : ∃ x, x = wi.drewN nq := ⟨_, rfl⟩
          have hm := mod_of_drewN ⟨nq, hw1⟩ (fun _ => False)
          rw [← hw1]
          clear hw1
          have KA2 := Lib.hid (KA.out.mod hm (fun h => h))
          have KB2 := Lib.hid (KB.out.mod hm (fun h => h))
          have KM2 := Lib.hid (KM.out.trans hm (fun _ _ h => h))
          have zz2 := hm.size
          clear hm KA KB KM
          go_wp2_with (first | (go_at_call 156; (with_reducible refine (RL_7 _ _).mono ?_); rintro e w' ⟨rfl, rfl⟩) | (go_at_call 156; (with_reducible refine (RL_18 _ _).mono ?_); rintro e w' ⟨rfl, rfl⟩) | (go_at_call 156; (with_reducible refine (RL_17 _ _).mono ?_); rintro e w' ⟨rfl, rfl⟩) | (go_at_call 156; (with_reducible refine (RL_19 _ _).mono ?_); rintro e w' ⟨rfl, rfl⟩))
          have c0 := KB2.out.cell (j := j) (by rw [spTo_len]; omega)
          have c9 := KB2.out.cell (j := j + 9) (by rw [spTo_len]; omega)
          have c16 := KB2.out.cell (j := j + 16) (by rw [spTo_len]; omega)
          have f16 := KB2.out.frozen (j + 16)
          have b0 : (0 : Int) ≤ j := by omega
          have b1 : (j : Int) < 64 := by omega
          have b2 : (0 : Int) ≤ (j : Int) + 9 := by omega
          have b3 : (j : Int) + 9 < 64 := by omega
          have b4 : (0 : Int) ≤ (j : Int) + 16 := by omega
          have hw0 : IntKind.i64.wrap (j : Int) = j := IntWalk.i64_in _ (by omega)
          have hw9 : IntKind.i64.wrap ((j : Int) + 16 - 7) = (j : Int) + 9 := by rw [IntWalk.i64_in _ (by omega)]; omega
          have ht9 : ((j : Int) + 9).toNat = j + 9 := by omega
          have ht16 : ((j : Int) + 16).toNat = j + 16 := by omega
          obtain ⟨p, hp⟩ : ∃ p, p = (spTo bs j).getD j 0 := ⟨_, rfl⟩
          obtain ⟨q, hq⟩ : ∃ q, q = (spTo bs j).getD (j + 9) 0 := ⟨_, rfl⟩
          rw [← hp] at c0
          rw [← hq] at c9
          have HP := Lib.hid hp
          have HQ := Lib.hid hq
          clear hp hq
          have hset := KB2.out.set (j + 16) (spVal p x q y)
          rw [HP.out, HX.out, HQ.out, HY.out] at hset
          have e : (spTo bs j).set (j + 16) (spVal ((spTo bs j).getD j 0) ((spTo bs j).getD (j + 1) 0) ((spTo bs j).getD (j + 9) 0) ((spTo bs j).getD (j + 14) 0)) = spTo bs (j + 1) := (spTo_succ bs j).symm
          rw [e] at hset
          rw [← HP.out, ← HX.out, ← HQ.out, ← HY.out] at hset
          clear e
          have HSET := Lib.hid hset
          have HVAL := Lib.hid (show spVal p x q y = IntKind.u32.wrap (IntKind.u32.wrap (IntKind.u32.wrap (p + bits .xor .u32 (bits .xor .u32 (rr 7 x) (rr 18 x)) (x / 8)) + q) + bits .xor .u32 (bits .xor .u32 (rr 17 y) (rr 19 y)) (y / 1024)) by simp only [spVal, pl, xr, IntKind.wrap_u32])
          clear hset
          go_region_law (fail)
          all_goals
            rw [← HVAL.out]
            go_wp2
            go_roundw
            case rel => exact ⟨j + 1, by go_num, by omega, KA2.out.other (p := ⟨w.heap.size + 1, j + 16, none⟩) (by simp) _, HSET.out, (KM2.out.setCell (p := ⟨w.heap.size + 1, j + 16, none⟩) (by first | (simp; done) | (simp; omega)) _).drew⟩
            case measure => first | (simp [intOf]; done) | (simp [intOf]; omega)
        · obtain rfl : j = 48 := by omega
          have hFl : F.length = 64 := by rw [HFF.out]; exact spreadF_len bs
          have hzl : zs.length = 64 := by rw [HZ.out]; simp
          have hKB : Ws 171 wi (w.heap.size + 1) F := by rw [HFF.out]; exact KB.out
          have hcell : ∀ k u, (F.map wv)[k]? = some u → wi.cell? ⟨w.heap.size + 1, 0 + k, none⟩ = some u := by
            intro k u hu
            rw [Nat.zero_add, Cs.cell hKB]
            simpa using hu
          have HCELL := Lib.hid hcell
          have HS := Lib.hid (show (Try.prog.info? 171).map (·.size) = some (F.map wv).length by rw [List.length_map, hFl]; exact size_a64)
          have HF := Lib.hid (show 0 + (F.map wv).length ≤ (zs.map wv).toArray.size by simp [hFl, hzl])
          have HLY := Lib.hid (lay_whole (zs.map wv).toArray (F.map wv) (by simp [hFl, hzl]))
          clear hcell hFl hzl hKB
          go_upto_region 14 with (fail)
          go_step
          refine wpList_loadA rfl 171 (.tmp 3) rfl Try.underlying171 rfl (g := w.heap.size + 1) (off := 0) (cs := F.map wv) HS.out rfl HCELL.out ?_
          simp only [Act.put, List.setIfInBounds_toArray, List.set_cons_zero, List.set_cons_succ]
          refine wpList_storeA rfl 171 (.tmp 2) (.tmp 64) rfl KA.out (vs := F.map wv) HS.out (wv_one _) HF.out rfl rfl ?_
          intro w3 hc3 hm3
          rw [HLY.out] at hc3
          go_wp2
          refine bodyPost_ret (results_cellA rfl _ _ w.heap.size (F.map wv) rfl (fun k u hu => by rw [hc3.cell]; simpa using hu) Try.underlying171 rfl HS.out) rfl ⟨rfl, KM.out.trans (hm3.mono (S' := fun k => k = w.heap.size) (fun k _ hk => hk)) (by intro k h1 h2; omega)⟩
end Go.Proofs.Ytknpapcfhnhheaa
