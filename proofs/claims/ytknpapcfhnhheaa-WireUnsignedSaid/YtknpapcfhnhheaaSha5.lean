/- sha.Sum. -/
import Derived.Test.YtknpapcfhnhheaaSha4
import Derived.Test.YtknpapcfhnhheaaNums
set_option maxRecDepth 100000
set_option linter.unusedVariables false
namespace Go.Proofs.Ytknpapcfhnhheaa
open Go Go.RowKit Go.Gv

def padZ (n : Nat) : Nat := (119 - n % 64) % 64
def padded (bs : List Int) (j : Nat) : List Int := bs ++ [128] ++ List.replicate j 0
def lenB (n i : Nat) : Int := ((n : Int) * 8) / 2 ^ (56 - 8 * i) % 256
def fullTo (bs : List Int) (i : Nat) : List Int := padded bs (padZ bs.length) ++ (List.range i).map (lenB bs.length)
def fullB (bs : List Int) : List Int := fullTo bs 8
def blocksTo (fb : List Int) (t : Nat) : List Int := (List.range t).foldl (fun h j => mixF h K256 (fb.drop (64 * j))) H256
def outB (h : List Int) (q : Nat) : Int := (h.getD (q / 4) 0) / 2 ^ (24 - 8 * (q % 4)) % 256
def shaF (bs : List Int) : List Int := (List.range 32).map (outB (blocksTo (fullB bs) ((fullB bs).length / 64)))
theorem padded_len (bs : List Int) (j : Nat) : (padded bs j).length = bs.length + 1 + j := by simp [padded]; omega
theorem padded_succ (bs : List Int) (j : Nat) : padded bs j ++ [0] = padded bs (j + 1) := by
  unfold padded
  rw [List.append_assoc, List.replicate_succ']
theorem pad_iff {n j : Nat} (h : j ≤ padZ n) : (n + 1 + j) % 64 = 56 ↔ j = padZ n := by unfold padZ at *; omega
theorem fullTo_len (bs : List Int) (i : Nat) : (fullTo bs i).length = bs.length + 1 + padZ bs.length + i := by unfold fullTo; rw [List.length_append, padded_len]; simp
theorem fullTo_succ (bs : List Int) (i : Nat) : fullTo bs i ++ [lenB bs.length i] = fullTo bs (i + 1) := by
  unfold fullTo
  rw [List.append_assoc, List.range_succ, List.map_append]
  rfl
theorem full_div (bs : List Int) : (fullB bs).length % 64 = 0 := by unfold fullB; rw [fullTo_len]; unfold padZ; omega
theorem lenB_byte (n i : Nat) : 0 ≤ lenB n i ∧ lenB n i < 256 := by unfold lenB; omega
theorem blocks_succ (fb : List Int) (t : Nat) : blocksTo fb (t + 1) = mixF (blocksTo fb t) K256 (fb.drop (64 * t)) := by unfold blocksTo; rw [List.range_succ, List.foldl_append]; rfl
theorem mixF_len (h k b : List Int) (hl : h.length = 8) : (mixF h k b).length = 8 := by unfold mixF; rw [addTo_len, hl]
theorem blocks_len (fb : List Int) (t : Nat) : (blocksTo fb t).length = 8 := by
  induction t with
  | zero => rfl
  | succ t ih => rw [blocks_succ, mixF_len _ _ _ ih]
theorem shaF_len (bs : List Int) : (shaF bs).length = 32 := by simp [shaF]
theorem outB_byte (h : List Int) (q : Nat) : 0 ≤ outB h q ∧ outB h q < 256 := by unfold outB; omega
theorem shaF_bytes (bs : List Int) : Bytes (shaF bs) := by
  intro x hx
  obtain ⟨q, _, rfl⟩ := List.mem_map.1 hx
  exact outB_byte _ _

theorem Cs_new1 (w : World) (o : Obj) (c : Array Value) (e : TypeId) : Cs ((w.alloc o).alloc (.cells c e)) (w.heap.size + 1) c e := by
  have := Cs.new (w.alloc o) c e
  rwa [show (w.alloc o).heap.size = w.heap.size + 1 by simp] at this
def lenOf : Value → Nat
  | .slice _ n _ => n
  | _ => 0
def outTo (h : List Int) (q : Nat) : List Int := (List.range q).map (outB h) ++ List.replicate (32 - q) 0
theorem outTo_len (h : List Int) (q : Nat) (hq : q ≤ 32) : (outTo h q).length = 32 := by simp [outTo]; omega
theorem outTo_succ (h : List Int) (q : Nat) (hq : q < 32) : (outTo h q).set q (outB h q) = outTo h (q + 1) := by
  unfold outTo
  rw [List.set_append_right _ _ (by simp), List.length_map, List.length_range, Nat.sub_self, List.range_succ, List.map_append, List.append_assoc]
  congr 1
  obtain ⟨k, hk⟩ : ∃ k, 32 - q = k + 1 := ⟨31 - q, by omega⟩
  rw [hk, show 32 - (q + 1) = k by omega, List.replicate_succ]
  rfl
theorem outB_at (h : List Int) (i j : Nat) (hj : j < 4) : outB h (4 * i + j) = (h.getD i 0) / 2 ^ (24 - 8 * j) % 256 := by
  unfold outB
  rw [show (4 * i + j) / 4 = i by omega, show (4 * i + j) % 4 = j by omega]
theorem Cs_setB {w : World} {g : Nat} {bs : List Int} {e : TypeId} (h : Cs w g (bs.map bv).toArray e) (j : Nat) (x : Int) : Cs (w.setCell ⟨g, j, none⟩ (bv x)) g ((bs.set j x).map bv).toArray e := by
  have := h.set j (bv x)
  simpa [List.map_set] using this
structure SumO (w0 : World) (h : List Int) (w : World) : Prop where
  k2 : Cs w w0.heap.size ((List.replicate 32 0).map bv).toArray 25
  k3 : Ws 170 w (w0.heap.size + 1) h
  m : Mod (fun _ => False) w0 w
theorem SumO.mod {S : Nat → Prop} {w0 w w' : World} {h : List Int} (o : SumO w0 h w) (hm : Mod S w w') (hS : ∀ k, S k → w0.heap.size + 2 ≤ k) : SumO w0 h w' :=
  ⟨o.k2.mod hm (fun q => by have := hS _ q; omega), o.k3.mod hm (fun q => by have := hS _ q; omega), o.m.trans hm (fun k hk q => by have := hS _ q; omega)⟩
theorem SumO.put {w0 w w' : World} {h h' : List Int} (o : SumO w0 h w) (hm : Mod (fun k => k = w0.heap.size + 1) w w') (hs : Ws 170 w' (w0.heap.size + 1) h') : SumO w0 h' w' :=
  ⟨o.k2.mod hm (by omega), hs, o.m.trans hm (fun k hk q => by omega)⟩
/-- the padded bytes, in blocks of their own -/
def FulO (w0 : World) (w : World) (v : Value) (bs : List Int) : Prop := OwR (fun k => w0.heap.size + 2 ≤ k) bs.length w v bs
theorem FulO.mod {S : Nat → Prop} {w0 w w' : World} {v : Value} {bs : List Int} (o : FulO w0 w v bs) (hm : Mod S w w') (hS : ∀ k, S k → k < w0.heap.size + 2) : FulO w0 w' v bs := OwR.mod o hm (fun k h1 h2 => by have := hS k h2; omega)

set_option maxHeartbeats 4000000 in
theorem Sum_any (v : Value) (bs : List Int) (w : World) (h : RdB w v bs) (hlen : bs.length ≤ 900000) :
    Calls Try.prog 96 #[v] w fun e w' => e = .returned (hv (shaF bs)) ∧ Mod (fun _ => False) w w' := by
  have hbl := h.block_lt
  have HR := Lib.hid (show RdR (fun k => k < w.heap.size) bs.length w v bs from ⟨h, hbl, Nat.le_refl _⟩)
  obtain ⟨ao, cap, rfl, -, -⟩ := h.shape
  clear h hbl
  go_enter Try.func96, Try.ntmps96
  go_wp2_with ((with_reducible show wpList _ _ _ (Oper.mk none (Op.store 170 (.tmp 3) (.tmp 12)) _ _ _ _ :: _) _ _); go_must (refine wpList_storeA rfl 170 (.tmp 3) (.tmp 12) rfl (Cs_new1 _ _ _ _) (off := 0) (vs := H256.map wv) size_a8 (wv_one _) (by decide) rfl rfl ?_))
  intro w1 hc1 hm1
  rw [lay_whole _ _ (by decide)] at hc1
  have hO : SumO w H256 w1 := by
    refine ⟨?_, ?_, (((Mod.refl _ _).alloc _).alloc _).trans hm1 (by intro k h1 h2; (try dsimp only at h2); omega)⟩
    · refine Cs.mod (((Cs.new w _ _).alloc _)) hm1 (by simp)
    · exact hc1
  have KO := Lib.hid hO
  have z1 : w.heap.size + 2 ≤ w1.heap.size := by have := hO.k3.lt; omega
  clear hO hc1 hm1
  have HR1 := Lib.hid (HR.out.mod KO.out.m (fun _ _ h => h))
  go_wp2_with (at_builtin; go_must (refine wpList_appR rfl (.const (.slice none 0 0)) (.tmp 13) rfl rfl (R := fun k => w.heap.size + 2 ≤ k) (N := 0) (bs := []) ⟨OwnB.nil _, (fun g hg => by cases hg), Nat.le_refl _⟩ rfl HR1.out (by omega) ?_))
  intro ao2 cap2 w2 hq2 hm2
  have KO2 := Lib.hid (KO.out.mod hm2 (fun k hk => hk))
  have z2 := hm2.size
  have HQ2 := Lib.hid (show FulO w w2 (.slice ao2 bs.length cap2) bs from ⟨hq2.1, fun g hg => by have := hq2.2.1 g hg; unfold New at this; omega, Nat.le_refl _⟩)
  clear hq2 hm2 KO HR1
  go_wp2_with (at_builtin; go_must (refine wpList_appR1 rfl (.tmp 14) (.tmp 15) rfl rfl HQ2.out rfl (by omega) (by omega) (by omega) ?_))
  intro ao3 cap3 w3 hq3 hm3
  have KO3 := Lib.hid (KO2.out.mod hm3 (fun k hk => hk))
  have z3 := hm3.size
  have HQ3 := Lib.hid (show FulO w w3 (.slice ao3 (bs.length + 1) cap3) (padded bs 0) from ⟨by have := hq3.1; simpa [padded] using this, fun g hg => by have := hq3.2.1 g hg; unfold New at this; omega, by rw [padded_len]; omega⟩)
  clear hq3 hm3 KO2 HQ2
  have hz : padZ bs.length ≤ 63 := by unfold padZ; omega
  go_wp2
  go_loopw [4] (fun t4 wr => ∃ (j : Nat) (ao : Option Addr) (cap : Nat), t4 = .slice ao (bs.length + 1 + j) cap ∧ j ≤ padZ bs.length ∧ FulO w wr (.slice ao (bs.length + 1 + j) cap) (padded bs j) ∧ SumO w H256 wr) (fun t4 _ => bs.length + 1 + padZ bs.length - lenOf t4)
  case atStart => exact ⟨0, ao3, cap3, rfl, by omega, HQ3.out, KO3.out⟩
  case round =>
    obtain ⟨j, ao4, cap4, rfl, hj, hF, hO⟩ := hrel
    have hiff := pad_iff hj
    have KF := Lib.hid hF
    have KO := Lib.hid hO
    have zr := hO.k3.lt
    clear hF hO HQ3 KO3
    obtain ⟨n, hn⟩ : ∃ n, n = bs.length + 1 + j := ⟨_, rfl⟩
    rw [← hn] at KF hiff
    rw [← hn]
    have HN := Lib.hid hn
    have hnb : n ≤ 950000 := by omega
    clear hn
    by_cases hlt : j < padZ bs.length
    · have h56 : ¬ ((n : Int) % 64 = 56) := by omega
      clear hiff
      go_wp2_with (at_builtin; go_must (refine wpList_appR1 rfl (.tmp 21) (.tmp 22) rfl rfl KF.out rfl (by omega) (by omega) (by rw [padded_len]; omega) ?_))
      intro ao5 cap5 w5 hq5 hm5
      have KO5 := Lib.hid (KO.out.mod hm5 (fun k hk => hk))
      have z5 := hm5.size
      rw [padded_succ] at hq5
      have hl5 : (padded bs j).length = n := by rw [padded_len, HN.out]
      rw [hl5] at hq5 ⊢
      have hl6 := padded_len bs (j + 1)
      have HQ5 := Lib.hid (show FulO w w5 (.slice ao5 (n + 1) cap5) (padded bs (j + 1)) from ⟨hq5.1, fun g hg => by have := hq5.2.1 g hg; unfold New at this; omega, Nat.le_refl _⟩)
      clear hq5 hm5 hl5 hl6
      go_wp2
      go_roundw
      case rel => exact ⟨j + 1, ao5, cap5, by rw [HN.out, ← Nat.add_assoc], by omega, by have := HQ5.out; rw [HN.out, Nat.add_assoc] at this; exact this, KO5.out⟩
      case measure => have := HN.out; simp [lenOf]; omega
    · obtain rfl : j = padZ bs.length := by omega
      have h56 : (n : Int) % 64 = 56 := by omega
      have hl4 : (padded bs (padZ bs.length)).length = n := by rw [padded_len, HN.out]
      clear hiff
      go_wp2
      obtain ⟨x, hx⟩ : ∃ x : Int, x = (bs.length : Int) * 8 := ⟨_, rfl⟩
      rw [← hx]
      have HX := Lib.hid hx
      have HL4 := Lib.hid hl4
      clear hx hl4 h56
      have hfz : FulO w wr (.slice ao4 n cap4) (fullTo bs 0) := by have := KF.out; rw [show fullTo bs 0 = padded bs (padZ bs.length) by simp [fullTo]]; exact this
      have HF0 := Lib.hid hfz
      clear hfz KF
      go_loopw [4, 28] (fun t4 t28 wr => ∃ (i : Nat) (ao : Option Addr) (cap : Nat), t28 = .int .i64 i ∧ i ≤ 8 ∧ t4 = .slice ao (n + i) cap ∧ FulO w wr (.slice ao (n + i) cap) (fullTo bs i) ∧ SumO w H256 wr) (fun _ t28 _ => 8 - (intOf t28).toNat)
      case atStart => exact ⟨0, ao4, cap4, rfl, by omega, rfl, HF0.out, KO.out⟩
      case round =>
        obtain ⟨wi, rfl⟩ : ∃ x, x = wr := ⟨_, rfl⟩
        obtain ⟨i, ao6, cap6, rfl, hi, rfl, hF, hO⟩ := hrel
        clear KO HF0
        have KF := Lib.hid hF
        have KO := Lib.hid hO
        have zr2 := hO.k3.lt
        clear hF hO
        have hfl := fullTo_len bs i
        have hfl2 : (fullTo bs i).length = n + i := by rw [hfl, HN.out]
        have HFL := Lib.hid hfl2
        clear hfl hfl2
        by_cases hlt2 : i < 8
        · have hlb := lenB_byte bs.length i
          have hlv : lenB bs.length i = x / 2 ^ (56 - 8 * i) % 256 := by rw [HX.out]; rfl
          obtain ⟨y, hy⟩ : ∃ y, y = lenB bs.length i := ⟨_, rfl⟩
          rw [← hy] at hlb hlv
          have HY := Lib.hid hy
          have HV := Lib.hid hlv
          clear hy hlv
          have HI := Lib.hid (show i < 8 from hlt2)
          match i, hlt2 with
          | 0, _ =>
            have hv : y = x / 72057594037927936 % 256 := by rw [HV.out]; simp
            have HVV := Lib.hid hv
            rw [hv] at hlb
            clear hv
            go_wp2_with (at_builtin; go_must (refine wpList_appR1 rfl (.tmp 31) (.tmp 38) rfl rfl KF.out rfl hlb.1 hlb.2 (by rw [HFL.out]; omega) ?_))
            intro ao7 cap7 w7 hq7 hm7
            have KO7 := Lib.hid (KO.out.mod hm7 (fun k hk => hk))
            have z7 := hm7.size
            rw [← HVV.out, HY.out, fullTo_succ, HFL.out] at hq7
            rw [HFL.out]
            have hl7 := fullTo_len bs (0 + 1)
            have hl8 := HN.out
            have HQ7 := Lib.hid (show FulO w w7 (.slice ao7 (n + 0 + 1) cap7) (fullTo bs (0 + 1)) from ⟨hq7.1, fun g hg => by have := hq7.2.1 g hg; unfold New at this; omega, Nat.le_refl _⟩)
            clear hq7 hm7 hl7 hl8 hlb
            go_wp2
            go_roundw
            case rel => exact ⟨0 + 1, ao7, cap7, by go_num, by omega, rfl, HQ7.out, KO7.out⟩
            case measure => first | (simp [intOf]; done) | (simp [intOf]; omega)
          | 1, _ =>
            have hv : y = x / 281474976710656 % 256 := by rw [HV.out]; simp
            have HVV := Lib.hid hv
            rw [hv] at hlb
            clear hv
            go_wp2_with (at_builtin; go_must (refine wpList_appR1 rfl (.tmp 31) (.tmp 38) rfl rfl KF.out rfl hlb.1 hlb.2 (by rw [HFL.out]; omega) ?_))
            intro ao7 cap7 w7 hq7 hm7
            have KO7 := Lib.hid (KO.out.mod hm7 (fun k hk => hk))
            have z7 := hm7.size
            rw [← HVV.out, HY.out, fullTo_succ, HFL.out] at hq7
            rw [HFL.out]
            have hl7 := fullTo_len bs (1 + 1)
            have hl8 := HN.out
            have HQ7 := Lib.hid (show FulO w w7 (.slice ao7 (n + 1 + 1) cap7) (fullTo bs (1 + 1)) from ⟨hq7.1, fun g hg => by have := hq7.2.1 g hg; unfold New at this; omega, Nat.le_refl _⟩)
            clear hq7 hm7 hl7 hl8 hlb
            go_wp2
            go_roundw
            case rel => exact ⟨1 + 1, ao7, cap7, by go_num, by omega, rfl, HQ7.out, KO7.out⟩
            case measure => first | (simp [intOf]; done) | (simp [intOf]; omega)
          | 2, _ =>
            have hv : y = x / 1099511627776 % 256 := by rw [HV.out]; simp
            have HVV := Lib.hid hv
            rw [hv] at hlb
            clear hv
            go_wp2_with (at_builtin; go_must (refine wpList_appR1 rfl (.tmp 31) (.tmp 38) rfl rfl KF.out rfl hlb.1 hlb.2 (by rw [HFL.out]; omega) ?_))
            intro ao7 cap7 w7 hq7 hm7
            have KO7 := Lib.hid (KO.out.mod hm7 (fun k hk => hk))
            have z7 := hm7.size
            rw [← HVV.out, HY.out, fullTo_succ, HFL.out] at hq7
            rw [HFL.out]
            have hl7 := fullTo_len bs (2 + 1)
            have hl8 := HN.out
            have HQ7 := Lib.hid (show FulO w w7 (.slice ao7 (n + 2 + 1) cap7) (fullTo bs (2 + 1)) from ⟨hq7.1, fun g hg => by have := hq7.2.1 g hg; unfold New at this; omega, Nat.le_refl _⟩)
            clear hq7 hm7 hl7 hl8 hlb
            go_wp2
            go_roundw
            case rel => exact ⟨2 + 1, ao7, cap7, by go_num, by omega, rfl, HQ7.out, KO7.out⟩
            case measure => first | (simp [intOf]; done) | (simp [intOf]; omega)
          | 3, _ =>
            have hv : y = x / 4294967296 % 256 := by rw [HV.out]; simp
            have HVV := Lib.hid hv
            rw [hv] at hlb
            clear hv
            go_wp2_with (at_builtin; go_must (refine wpList_appR1 rfl (.tmp 31) (.tmp 38) rfl rfl KF.out rfl hlb.1 hlb.2 (by rw [HFL.out]; omega) ?_))
            intro ao7 cap7 w7 hq7 hm7
            have KO7 := Lib.hid (KO.out.mod hm7 (fun k hk => hk))
            have z7 := hm7.size
            rw [← HVV.out, HY.out, fullTo_succ, HFL.out] at hq7
            rw [HFL.out]
            have hl7 := fullTo_len bs (3 + 1)
            have hl8 := HN.out
            have HQ7 := Lib.hid (show FulO w w7 (.slice ao7 (n + 3 + 1) cap7) (fullTo bs (3 + 1)) from ⟨hq7.1, fun g hg => by have := hq7.2.1 g hg; unfold New at this; omega, Nat.le_refl _⟩)
            clear hq7 hm7 hl7 hl8 hlb
            go_wp2
            go_roundw
            case rel => exact ⟨3 + 1, ao7, cap7, by go_num, by omega, rfl, HQ7.out, KO7.out⟩
            case measure => first | (simp [intOf]; done) | (simp [intOf]; omega)
          | 4, _ =>
            have hv : y = x / 16777216 % 256 := by rw [HV.out]; simp
            have HVV := Lib.hid hv
            rw [hv] at hlb
            clear hv
            go_wp2_with (at_builtin; go_must (refine wpList_appR1 rfl (.tmp 31) (.tmp 38) rfl rfl KF.out rfl hlb.1 hlb.2 (by rw [HFL.out]; omega) ?_))
            intro ao7 cap7 w7 hq7 hm7
            have KO7 := Lib.hid (KO.out.mod hm7 (fun k hk => hk))
            have z7 := hm7.size
            rw [← HVV.out, HY.out, fullTo_succ, HFL.out] at hq7
            rw [HFL.out]
            have hl7 := fullTo_len bs (4 + 1)
            have hl8 := HN.out
            have HQ7 := Lib.hid (show FulO w w7 (.slice ao7 (n + 4 + 1) cap7) (fullTo bs (4 + 1)) from ⟨hq7.1, fun g hg => by have := hq7.2.1 g hg; unfold New at this; omega, Nat.le_refl _⟩)
            clear hq7 hm7 hl7 hl8 hlb
            go_wp2
            go_roundw
            case rel => exact ⟨4 + 1, ao7, cap7, by go_num, by omega, rfl, HQ7.out, KO7.out⟩
            case measure => first | (simp [intOf]; done) | (simp [intOf]; omega)
          | 5, _ =>
            have hv : y = x / 65536 % 256 := by rw [HV.out]; simp
            have HVV := Lib.hid hv
            rw [hv] at hlb
            clear hv
            go_wp2_with (at_builtin; go_must (refine wpList_appR1 rfl (.tmp 31) (.tmp 38) rfl rfl KF.out rfl hlb.1 hlb.2 (by rw [HFL.out]; omega) ?_))
            intro ao7 cap7 w7 hq7 hm7
            have KO7 := Lib.hid (KO.out.mod hm7 (fun k hk => hk))
            have z7 := hm7.size
            rw [← HVV.out, HY.out, fullTo_succ, HFL.out] at hq7
            rw [HFL.out]
            have hl7 := fullTo_len bs (5 + 1)
            have hl8 := HN.out
            have HQ7 := Lib.hid (show FulO w w7 (.slice ao7 (n + 5 + 1) cap7) (fullTo bs (5 + 1)) from ⟨hq7.1, fun g hg => by have := hq7.2.1 g hg; unfold New at this; omega, Nat.le_refl _⟩)
            clear hq7 hm7 hl7 hl8 hlb
            go_wp2
            go_roundw
            case rel => exact ⟨5 + 1, ao7, cap7, by go_num, by omega, rfl, HQ7.out, KO7.out⟩
            case measure => first | (simp [intOf]; done) | (simp [intOf]; omega)
          | 6, _ =>
            have hv : y = x / 256 % 256 := by rw [HV.out]; simp
            have HVV := Lib.hid hv
            rw [hv] at hlb
            clear hv
            go_wp2_with (at_builtin; go_must (refine wpList_appR1 rfl (.tmp 31) (.tmp 38) rfl rfl KF.out rfl hlb.1 hlb.2 (by rw [HFL.out]; omega) ?_))
            intro ao7 cap7 w7 hq7 hm7
            have KO7 := Lib.hid (KO.out.mod hm7 (fun k hk => hk))
            have z7 := hm7.size
            rw [← HVV.out, HY.out, fullTo_succ, HFL.out] at hq7
            rw [HFL.out]
            have hl7 := fullTo_len bs (6 + 1)
            have hl8 := HN.out
            have HQ7 := Lib.hid (show FulO w w7 (.slice ao7 (n + 6 + 1) cap7) (fullTo bs (6 + 1)) from ⟨hq7.1, fun g hg => by have := hq7.2.1 g hg; unfold New at this; omega, Nat.le_refl _⟩)
            clear hq7 hm7 hl7 hl8 hlb
            go_wp2
            go_roundw
            case rel => exact ⟨6 + 1, ao7, cap7, by go_num, by omega, rfl, HQ7.out, KO7.out⟩
            case measure => first | (simp [intOf]; done) | (simp [intOf]; omega)
          | 7, _ =>
            have hv : y = x % 256 := by rw [HV.out]; simp
            have HVV := Lib.hid hv
            rw [hv] at hlb
            clear hv
            go_wp2_with (at_builtin; go_must (refine wpList_appR1 rfl (.tmp 31) (.tmp 38) rfl rfl KF.out rfl hlb.1 hlb.2 (by rw [HFL.out]; omega) ?_))
            intro ao7 cap7 w7 hq7 hm7
            have KO7 := Lib.hid (KO.out.mod hm7 (fun k hk => hk))
            have z7 := hm7.size
            rw [← HVV.out, HY.out, fullTo_succ, HFL.out] at hq7
            rw [HFL.out]
            have hl7 := fullTo_len bs (7 + 1)
            have hl8 := HN.out
            have HQ7 := Lib.hid (show FulO w w7 (.slice ao7 (n + 7 + 1) cap7) (fullTo bs (7 + 1)) from ⟨hq7.1, fun g hg => by have := hq7.2.1 g hg; unfold New at this; omega, Nat.le_refl _⟩)
            clear hq7 hm7 hl7 hl8 hlb
            go_wp2
            go_roundw
            case rel => exact ⟨7 + 1, ao7, cap7, by go_num, by omega, rfl, HQ7.out, KO7.out⟩
            case measure => first | (simp [intOf]; done) | (simp [intOf]; omega)
        · obtain rfl : i = 8 := by omega
          obtain ⟨fb, hfb⟩ : ∃ fb, fb = fullB bs := ⟨_, rfl⟩
          have hL : fb.length = n + 8 := by rw [hfb]; exact HFL.out
          have hdiv : fb.length % 64 = 0 := by rw [hfb]; exact full_div bs
          have hFF : FulO w wi (.slice ao6 (n + 8) cap6) fb := by rw [hfb]; exact KF.out
          have HFB := Lib.hid hfb
          have HFF := Lib.hid hFF
          have HDIV := Lib.hid hdiv
          have HL := Lib.hid hL
          clear hfb hFF hL hdiv KF HFL
          rw [show ((8 : Nat) : Int) = 8 from rfl]
          go_wp2_with fail
          refine (rounds_any _).mono ?_
          rintro e w8 ⟨rfl, hm8⟩
          have z8 := hm8.size
          have KO8 := Lib.hid (KO.out.mod hm8 (fun k h => h.elim))
          have HF8 := HFF.out.rd.mod hm8 (fun k _ h => h.elim)
          have HF9 := Lib.hid (show RdR (fun k => w.heap.size + 2 ≤ k ∧ k < w8.heap.size) fb.length w8 (.slice ao6 (n + 8) cap6) fb from ⟨HF8.1, fun h0 g hg => ⟨HF8.2.1 h0 g hg, HF8.1.block_lt h0 g hg⟩, Nat.le_refl _⟩)
          have zr8 := KO8.out.k3.lt
          clear hm8 HF8 KO HFF
          have HKL := Lib.hid (show 0 + (K256.map wv).length ≤ 64 by rw [List.length_map, K256_len]; exact Nat.le_refl _)
          have HKS := Lib.hid (show (Try.prog.info? 171).map (·.size) = some (K256.map wv).length by rw [List.length_map, K256_len]; exact size_a64)
          go_wp2_with ((with_reducible show wpList _ _ _ (Oper.mk none (Op.store 171 (.tmp 7) (.tmp 41)) _ _ _ _ :: _) _ _); go_must (refine wpList_storeA rfl 171 (.tmp 7) (.tmp 41) rfl (Cs.new _ _ _) (off := 0) (vs := K256.map wv) HKS.out (wv_one _) HKL.out rfl rfl ?_))
          intro w9 hc9 hm9
          rw [lay_whole _ _ (by rw [List.length_map, K256_len]; rfl)] at hc9
          have hm9' : Mod (fun _ => False) w8 w9 := ((Mod.refl _ _).alloc _).trans hm9 (by intro k h1 h2; (try dsimp only at h2); omega)
          have z9 := hm9'.size
          have zg := Cs.lt hc9
          have KO9 := Lib.hid (KO8.out.mod hm9' (fun k h => h.elim))
          have KK := Lib.hid (show Ws 171 w9 w8.heap.size K256 from hc9)
          have HF10 := Lib.hid (HF9.out.mod hm9' (fun _ _ h => h))
          clear hc9 hm9 hm9' KO8 HF9 HKL
          obtain ⟨g7, hg7⟩ : ∃ g, g = w8.heap.size := ⟨_, rfl⟩
          rw [← hg7] at KK HF10 zg
          rw [← hg7]
          have hg72 : w.heap.size + 2 ≤ g7 := by omega
          clear hg7 z8 z9 zr8
          have hn8 : n + 8 ≤ 960000 := by omega
          go_wp2
          go_loopw [4] (fun t4 wr => ∃ (t m : Nat) (ao : Option Addr) (cap : Nat), t4 = .slice ao m cap ∧ m + 64 * t = n + 8 ∧ RdR (fun k => w.heap.size + 2 ≤ k ∧ k < g7) fb.length wr (.slice ao m cap) (fb.drop (64 * t)) ∧ SumO w (blocksTo fb t) wr ∧ Ws 171 wr g7 K256) (fun t4 _ => lenOf t4)
          case atStart => exact ⟨0, n + 8, ao6, cap6, rfl, by omega, HF10.out, KO9.out, KK.out⟩
          case round =>
            obtain ⟨wj, rfl⟩ : ∃ x, x = wr := ⟨_, rfl⟩
            obtain ⟨t, m, ao10, cap10, rfl, hm, hF, hO, hK⟩ := hrel
            have hfl : fb.length = n + 8 := HL.out
            have hdl : (fb.drop (64 * t)).length = m := by rw [List.length_drop]; omega
            have hcl := hF.1.len.2
            have hdv : m % 64 = 0 := by have := HDIV.out; omega
            have KF := Lib.hid hF
            have KO := Lib.hid hO
            have KK2 := Lib.hid hK
            have HDL := Lib.hid hdl
            have zj := hO.k3.lt
            have zk := hK.lt
            clear hF hO hK hfl hdl KO9 KK HF10
            by_cases hlt : 0 < m
            · have hm64 : 64 ≤ m := by omega
              have hlti : (0 : Int) < (m : Int) := by omega
              obtain ⟨H, hH⟩ : ∃ H, H = blocksTo fb t := ⟨_, rfl⟩
              have hHl : H.length = 8 := by rw [hH]; exact blocks_len fb t
              have hsucc := blocks_succ fb t
              rw [← hH] at KO hsucc
              have HS := Lib.hid hsucc
              have HHL := Lib.hid hHl
              have HSZ := Lib.hid (show (Try.prog.info? 170).map (·.size) = some (H.map wv).length by rw [List.length_map, hHl]; exact size_a8)
              have HKS2 := Lib.hid (show (Try.prog.info? 171).map (·.size) = some (K256.map wv).length from HKS.out)
              have HC8 := Lib.hid (show ∀ k u, (H.map wv)[k]? = some u → wj.cell? ⟨w.heap.size + 1, 0 + k, none⟩ = some u by intro k u hu; rw [Nat.zero_add, Cs.cell KO.out.k3]; simpa using hu)
              have HC64 := Lib.hid (show ∀ k u, (K256.map wv)[k]? = some u → wj.cell? ⟨g7, 0 + k, none⟩ = some u by intro k u hu; rw [Nat.zero_add, Cs.cell KK2.out]; simpa using hu)
              have hmix := mix_any H K256 hHl K256_len (.slice ao10 m cap10) (fb.drop (64 * t)) wj KF.out.1 (fun g hg => KF.out.1.block_lt (by have := HDL.out; omega) g hg) (by have := HDL.out; omega)
              rw [← hsucc] at hmix
              have HMIX := Lib.hid hmix
              clear hH hHl hsucc hmix
              go_upto_region 14 with (fail)
              go_step
              refine wpList_loadA rfl 170 (.tmp 3) rfl Try.underlying170 rfl (g := w.heap.size + 1) (off := 0) (cs := H.map wv) HSZ.out rfl HC8.out ?_
              simp only [Act.put, List.setIfInBounds_toArray, List.set_cons_zero, List.set_cons_succ]
              refine wpList_loadA rfl 171 (.tmp 7) rfl Try.underlying171 rfl (g := g7) (off := 0) (cs := K256.map wv) HKS2.out rfl HC64.out ?_
              simp only [Act.put, List.setIfInBounds_toArray, List.set_cons_zero, List.set_cons_succ]
              go_wp2_with fail
              refine (HMIX.out).mono ?_
              rintro e w10 ⟨rfl, hm10⟩
              obtain ⟨H2, hH2⟩ : ∃ H2, H2 = blocksTo fb (t + 1) := ⟨_, rfl⟩
              have hH2l : H2.length = 8 := by rw [hH2]; exact blocks_len fb (t + 1)
              rw [← hH2]
              have HH2 := Lib.hid hH2
              have HSZ2 := Lib.hid (show (Try.prog.info? 170).map (·.size) = some (H2.map wv).length by rw [List.length_map, hH2l]; exact size_a8)
              have HFT := Lib.hid (show 0 + (H2.map wv).length ≤ (H.map wv).toArray.size by simp [hH2l, HHL.out])
              have HLY := Lib.hid (lay_whole (H.map wv).toArray (H2.map wv) (by simp [hH2l, HHL.out]))
              have z10 := hm10.size
              have KO10 := Lib.hid (KO.out.mod hm10 (fun k h => h.elim))
              have KK10 := Lib.hid (KK2.out.mod hm10 (fun h => h))
              have KF10 := Lib.hid (KF.out.mod hm10 (fun _ _ h => h))
              clear hH2 hH2l hm10 KO KK2 KF HMIX HC8 HC64
              go_wp2_with ((with_reducible show wpList _ _ _ (Oper.mk none (Op.store 170 (.tmp 3) (.tmp 50)) _ _ _ _ :: _) _ _); go_must (refine wpList_storeA rfl 170 (.tmp 3) (.tmp 50) rfl KO10.out.k3 (off := 0) (vs := H2.map wv) HSZ2.out (wv_one _) HFT.out rfl rfl ?_))
              intro w11 hc11 hm11
              rw [HLY.out] at hc11
              have z11 := hm11.size
              have KO11 := Lib.hid (KO10.out.put hm11 hc11)
              have KK11 := Lib.hid (KK10.out.mod hm11 (by omega))
              have KF11 := KF10.out.mod hm11 (by intro k h1 h2; (try dsimp only at h1 h2); omega)
              have hdd : (fb.drop (64 * t)).drop 64 = fb.drop (64 * (t + 1)) := by rw [List.drop_drop]; congr 1
              clear hc11 hm11 KO10 KK10 KF10
              rw [HH2.out] at KO11
              by_cases hc64 : cap10 = 64
              · have hta := RdB.tail_at KF11.1 64 (by rw [HDL.out]; omega) hc64
                rw [hdd, HDL.out] at hta
                have HTA := Lib.hid (show RdR (fun k => w.heap.size + 2 ≤ k ∧ k < g7) fb.length w11 (.slice ao10 (m - 64) 0) (fb.drop (64 * (t + 1))) from ⟨hta, fun h0 g hg => KF11.2.1 (by rw [HDL.out]; omega) g (by cases ao10 <;> simp_all [Value.ownBlock]), by simp⟩)
                clear hta KF11 hdd
                go_wp2
                go_roundw
                case rel => exact ⟨t + 1, m - 64, ao10, 0, rfl, by omega, HTA.out, KO11.out, KK11.out⟩
                case measure => simp [lenOf]; omega
              · have hta := RdB.tail_in KF11.1 64 (by rw [HDL.out]; omega) hc64
                rw [hdd, HDL.out] at hta
                have HTA := Lib.hid (show RdR (fun k => w.heap.size + 2 ≤ k ∧ k < g7) fb.length w11 (.slice (ao10.map fun x => x.add 64) (m - 64) (cap10 - 64)) (fb.drop (64 * (t + 1))) from ⟨hta, fun h0 g hg => KF11.2.1 (by rw [HDL.out]; omega) g (by rw [← ownBlock_map ao10 64 (m - 64) (cap10 - 64) m cap10]; exact hg), by simp⟩)
                clear hta KF11 hdd
                go_wp2
                go_roundw
                case rel => exact ⟨t + 1, m - 64, ao10.map fun x => x.add 64, cap10 - 64, rfl, by omega, HTA.out, KO11.out, KK11.out⟩
                case measure => simp [lenOf]; omega
            · obtain rfl : m = 0 := by omega
              have hn0 : n + 8 = 64 * t := by omega
              have htl : t = fb.length / 64 := by have := HL.out; omega
              have hres : shaF bs = (List.range 32).map (outB (blocksTo fb t)) := by rw [htl, HFB.out]; rfl
              obtain ⟨H, hH⟩ : ∃ H, H = blocksTo fb t := ⟨_, rfl⟩
              have hHl : H.length = 8 := by rw [hH]; exact blocks_len fb t
              rw [← hH] at KO hres
              have HRES := Lib.hid (show outTo H 32 = shaF bs by rw [hres]; simp [outTo])
              have HHL := Lib.hid hHl
              have HSZ := Lib.hid (show (Try.prog.info? 170).map (·.size) = some (H.map wv).length by rw [List.length_map, hHl]; exact size_a8)
              have z12 := KO.out.k3.lt
              clear hH hHl hres htl hn0 hm KF KK2 HDL HL HFB HDIV HX hdv hlt
              go_upto_region 16 with (fail)
              obtain ⟨w12, hw12⟩ : ∃ x, x = wj.alloc (.cells ((List.replicate 32 0).map bv).toArray 25) := ⟨_, rfl⟩
              change Code.wp _ _ _ _ (wj.alloc (.cells ((List.replicate 32 0).map bv).toArray 25))
              rw [← hw12]
              have hm12 : Mod (fun _ => False) wj w12 := by rw [hw12]; exact (Mod.refl _ _).alloc _
              have KO12 := Lib.hid (KO.out.mod hm12 (fun k h => h.elim))
              have KT := Lib.hid (show Cs w12 wj.heap.size ((outTo H 0).map bv).toArray 25 by rw [hw12]; exact Cs.new _ _ _)
              have HC8 := Lib.hid (show ∀ k u, (H.map wv)[k]? = some u → w12.cell? ⟨w.heap.size + 1, 0 + k, none⟩ = some u by intro k u hu; rw [Nat.zero_add, Cs.cell KO12.out.k3]; simpa using hu)
              obtain ⟨g8, hg8⟩ : ∃ g, g = wj.heap.size := ⟨_, rfl⟩
              rw [← hg8] at KT z12
              rw [← hg8]
              clear hw12 hm12 KO hg8
              go_step
              refine wpList_loadA rfl 170 (.tmp 3) rfl Try.underlying170 rfl (g := w.heap.size + 1) (off := 0) (cs := H.map wv) HSZ.out rfl HC8.out ?_
              simp only [Act.put, List.setIfInBounds_toArray, List.set_cons_zero, List.set_cons_succ]
              clear HC8
              go_wp2
              go_loopw [52] (fun t52 wr => ∃ (i : Nat), t52 = .int .i64 i ∧ i ≤ 8 ∧ Cs wr g8 ((outTo H (4 * i)).map bv).toArray 25 ∧ SumO w H wr) (fun t52 _ => 8 - (intOf t52).toNat)
              case atStart => exact ⟨0, rfl, by omega, KT.out, KO12.out⟩
              case round =>
                obtain ⟨wk, rfl⟩ : ∃ x, x = wr := ⟨_, rfl⟩
                obtain ⟨i, rfl, hi, hT, hO⟩ := hrel
                clear KT KO12
                have KT := Lib.hid hT
                have KO := Lib.hid hO
                clear hT hO
                by_cases hlt : i < 8
                · obtain ⟨x, hx⟩ : ∃ x, x = H.getD i 0 := ⟨_, rfl⟩
                  have HX := Lib.hid hx
                  clear hx
                  have hsz1 : (Try.prog.info? 169).map (·.size) = some 1 := by kernel_rfl
                  have HS1 := Lib.hid hsz1
                  clear hsz1
                  go_wp2_with ((with_reducible show wpList _ _ _ (Oper.mk (some 55) _ _ _ _ _ :: _) _ _); go_must (refine wpList_idxA rfl 170 (.tmp 51) (.tmp 52) rfl (i := i) Try.underlying170 Try.underlying169 HS1.out H HHL.out hlt rfl rfl ?_); rw [← HX.out])
                  go_loopw [56] (fun t56 wr => ∃ (j : Nat), t56 = .int .i64 j ∧ j ≤ 4 ∧ Cs wr g8 ((outTo H (4 * i + j)).map bv).toArray 25 ∧ SumO w H wr) (fun t56 _ => 4 - (intOf t56).toNat)
                  case atStart => exact ⟨0, rfl, by omega, KT.out, KO.out⟩
                  case round =>
                    obtain ⟨wm, rfl⟩ : ∃ x, x = wr := ⟨_, rfl⟩
                    obtain ⟨j, rfl, hj, hT, hO⟩ := hrel
                    clear KT KO
                    have KT := Lib.hid hT
                    have KO := Lib.hid hO
                    clear hT hO
                    by_cases hlj : j < 4
                    · have hq : 4 * i + j < 32 := by omega
                      have hl32 := outTo_len H (4 * i + j) (by omega)
                      have hc : wm.cell? ⟨g8, 4 * i + j, none⟩ = some (bv ((outTo H (4 * i + j)).getD (4 * i + j) 0)) := by
                        rw [KT.out.cell]; simp [List.getD, hl32, hq]
                      have hf := KT.out.frozen (4 * i + j)
                      have hnext := Cs_setB KT.out (4 * i + j) (outB H (4 * i + j))
                      rw [outTo_succ H _ hq, outB_at H i j hlj, ← HX.out] at hnext
                      have hmm : Mod (fun k => k = g8) wm (wm.setCell ⟨g8, 4 * i + j, none⟩ (bv (x / 2 ^ (24 - 8 * j) % 256))) := Mod.setCell (Mod.refl (fun k => k = g8) wm) (p := ⟨g8, 4 * i + j, none⟩) (fun _ => rfl) _
                      have hon := KO.out.mod hmm (fun k hk => by omega)
                      have HNX := Lib.hid hnext
                      have HON := Lib.hid hon
                      generalize (outTo H (4 * i + j)).getD (4 * i + j) 0 = old at hc
                      clear hnext hmm hon hl32
                      have HJ := Lib.hid hlj
                      match j, hlj with
                      | 0, _ =>
                        have h1 := HNX.out
                        have h2 := HON.out
                        rw [show (2 : Int) ^ (24 - 8 * 0) = 16777216 from by decide] at h1 h2
                        simp only [Nat.add_zero] at hc hf
                        have H1 := Lib.hid h1
                        have H2 := Lib.hid h2
                        clear h1 h2 HNX HON
                        go_wp2
                        go_roundw
                        case rel => exact ⟨0 + 1, by go_num, by omega, H1.out, H2.out⟩
                        case measure => first | (simp [intOf]; done) | (simp [intOf]; omega)
                      | 1, _ =>
                        have h1 := HNX.out
                        have h2 := HON.out
                        rw [show (2 : Int) ^ (24 - 8 * 1) = 65536 from by decide] at h1 h2
                        skip
                        have H1 := Lib.hid h1
                        have H2 := Lib.hid h2
                        clear h1 h2 HNX HON
                        go_wp2
                        go_roundw
                        case rel => exact ⟨1 + 1, by go_num, by omega, H1.out, H2.out⟩
                        case measure => first | (simp [intOf]; done) | (simp [intOf]; omega)
                      | 2, _ =>
                        have h1 := HNX.out
                        have h2 := HON.out
                        rw [show (2 : Int) ^ (24 - 8 * 2) = 256 from by decide] at h1 h2
                        skip
                        have H1 := Lib.hid h1
                        have H2 := Lib.hid h2
                        clear h1 h2 HNX HON
                        go_wp2
                        go_roundw
                        case rel => exact ⟨2 + 1, by go_num, by omega, H1.out, H2.out⟩
                        case measure => first | (simp [intOf]; done) | (simp [intOf]; omega)
                      | 3, _ =>
                        have h1 := HNX.out
                        have h2 := HON.out
                        rw [show (2 : Int) ^ (24 - 8 * 3) = 1 from by decide, Int.ediv_one] at h1 h2
                        skip
                        have H1 := Lib.hid h1
                        have H2 := Lib.hid h2
                        clear h1 h2 HNX HON
                        go_wp2
                        go_roundw
                        case rel => exact ⟨3 + 1, by go_num, by omega, H1.out, H2.out⟩
                        case measure => first | (simp [intOf]; done) | (simp [intOf]; omega)
                    · obtain rfl : j = 4 := by omega
                      go_wp2
                      go_roundw
                      case rel => exact ⟨i + 1, by go_num, by omega, by have := KT.out; rw [show 4 * i + 4 = 4 * (i + 1) by omega] at this; exact this, KO.out⟩
                      case measure => first | (simp [intOf]; done) | (simp [intOf]; omega)
                · obtain rfl : i = 8 := by omega
                  have hF := HRES.out
                  obtain ⟨F, hFF⟩ : ∃ F, F = shaF bs := ⟨_, rfl⟩
                  rw [← hFF] at hF
                  have hFl : F.length = 32 := by rw [hFF]; exact shaF_len bs
                  have hT := KT.out
                  rw [show 4 * 8 = 32 from rfl, hF] at hT
                  have HT := Lib.hid hT
                  have HFF2 := Lib.hid hFF
                  have HSF := Lib.hid (show (Try.prog.info? 25).map (·.size) = some (F.map bv).length by rw [List.length_map, hFl]; exact size_hash)
                  have HCF := Lib.hid (show ∀ k u, (F.map bv)[k]? = some u → wk.cell? ⟨g8, 0 + k, none⟩ = some u by intro k u hu; rw [Nat.zero_add, HT.out.cell]; simpa using hu)
                  have HFF := Lib.hid (show 0 + (F.map bv).length ≤ ((List.replicate 32 0).map bv).toArray.size by simp [hFl])
                  have HLY := Lib.hid (lay_whole ((List.replicate 32 0).map bv).toArray (F.map bv) (by simp [hFl]))
                  clear hF hFF hFl hT KT
                  rw [show ((8 : Nat) : Int) = 8 from rfl]
                  go_upto_region 25 with (fail)
                  go_step
                  refine wpList_loadA rfl 25 (.tmp 8) rfl Try.underlying25 rfl (g := g8) (off := 0) (cs := F.map bv) HSF.out rfl HCF.out ?_
                  simp only [Act.put, List.setIfInBounds_toArray, List.set_cons_zero, List.set_cons_succ]
                  refine wpList_storeA rfl 25 (.tmp 2) (.tmp 72) rfl KO.out.k2 (vs := F.map bv) HSF.out (ints_oneCell .u8 _) HFF.out rfl rfl ?_
                  intro w20 hc20 hm20
                  rw [HLY.out] at hc20
                  go_wp2
                  refine bodyPost_ret (results_cellA rfl _ _ w.heap.size (F.map bv) rfl (fun k u hu => by rw [hc20.cell]; simpa using hu) Try.underlying25 rfl HSF.out) rfl ⟨by rw [HFF2.out]; rfl, KO.out.m.trans (hm20.mono (S' := fun k => k = w.heap.size) (fun k _ hk => hk)) (by intro k h1 h2; omega)⟩
end Go.Proofs.Ytknpapcfhnhheaa
