/- Texts that are built one behind the other: XSha5, XWc, XCm1, XCm2, XSet0, XTy, XCut1, XCut2. No condition. -/
import Derived.Test.YtknpapcfhnhheaaT2
import Derived.Deep.Cut
/- sha.Sum. -/
set_option maxRecDepth 100000
set_option linter.unusedVariables false
namespace Go.Proofs.Ytknpapcfhnhheaa
open Go Go.RowKit Go.Gv

def padZ (n : Nat) : Nat := (119 - n % 64) % 64
def padded (bs : List Int) (j : Nat) : List Int := bs ++ [128] ++ List.replicate j 0
def lenB (n i : Nat) : Int := ((n : Int) * 8) / 2 ^ (56 - 8 * i) % 256
def fullTo (bs : List Int) (i : Nat) : List Int := padded bs (padZ bs.length) ++ (List.range i).map (lenB bs.length)
def fullB (bs : List Int) : List Int := fullTo bs 8
def blocksTo (fb : List Int) (t : Nat) : List Int := (List.range t).foldl (fun h j => mixF h K256 (fb.drop (64 * j))) H256
def outB (h : List Int) (q : Nat) : Int := (h.getD (q / 4) 0) / 2 ^ (24 - 8 * (q % 4)) % 256
def shaF (bs : List Int) : List Int := (List.range 32).map (outB (blocksTo (fullB bs) ((fullB bs).length / 64)))
theorem padded_len (bs : List Int) (j : Nat) : (padded bs j).length = bs.length + 1 + j := by simp [padded]; omega
theorem padded_succ (bs : List Int) (j : Nat) : padded bs j ++ [0] = padded bs (j + 1) := by
  unfold padded
  rw [List.append_assoc, List.replicate_succ']
theorem pad_iff {n j : Nat} (h : j ≤ padZ n) : (n + 1 + j) % 64 = 56 ↔ j = padZ n := by unfold padZ at *; omega
theorem fullTo_len (bs : List Int) (i : Nat) : (fullTo bs i).length = bs.length + 1 + padZ bs.length + i := by unfold fullTo; rw [List.length_append, padded_len]; simp
theorem fullTo_succ (bs : List Int) (i : Nat) : fullTo bs i ++ [lenB bs.length i] = fullTo bs (i + 1) := by
  unfold fullTo
  rw [List.append_assoc, List.range_succ, List.map_append]
  rfl
theorem full_div (bs : List Int) : (fullB bs).length % 64 = 0 := by unfold fullB; rw [fullTo_len]; unfold padZ; omega
theorem lenB_byte (n i : Nat) : 0 ≤ lenB n i ∧ lenB n i < 256 := by unfold lenB; omega
theorem blocks_succ (fb : List Int) (t : Nat) : blocksTo fb (t + 1) = mixF (blocksTo fb t) K256 (fb.drop (64 * t)) := by unfold blocksTo; rw [List.range_succ, List.foldl_append]; rfl
theorem mixF_len (h k b : List Int) (hl : h.length = 8) : (mixF h k b).length = 8 := by unfold mixF; rw [addTo_len, hl]
theorem blocks_len (fb : List Int) (t : Nat) : (blocksTo fb t).length = 8 := by
  induction t with
  | zero => rfl
  | succ t ih => rw [blocks_succ, mixF_len _ _ _ ih]
theorem shaF_len (bs : List Int) : (shaF bs).length = 32 := by simp [shaF]
theorem outB_byte (h : List Int) (q : Nat) : 0 ≤ outB h q ∧ outB h q < 256 := by unfold outB; omega
theorem shaF_bytes (bs : List Int) : Bytes (shaF bs) := by
  intro x hx
  obtain ⟨q, _, rfl⟩ := List.mem_map.1 hx
  exact outB_byte _ _

theorem Cs_new1 (w : World) (o : Obj) (c : Array Value) (e : TypeId) : Cs ((w.alloc o).alloc (.cells c e)) (w.heap.size + 1) c e := by
  have := Cs.new (w.alloc o) c e
  rwa [show (w.alloc o).heap.size = w.heap.size + 1 by simp] at this
def lenOf : Value → Nat
  | .slice _ n _ => n
  | _ => 0
def outTo (h : List Int) (q : Nat) : List Int := (List.range q).map (outB h) ++ List.replicate (32 - q) 0
theorem outTo_len (h : List Int) (q : Nat) (hq : q ≤ 32) : (outTo h q).length = 32 := by simp [outTo]; omega
theorem outTo_succ (h : List Int) (q : Nat) (hq : q < 32) : (outTo h q).set q (outB h q) = outTo h (q + 1) := by
  unfold outTo
  rw [List.set_append_right _ _ (by simp), List.length_map, List.length_range, Nat.sub_self, List.range_succ, List.map_append, List.append_assoc]
  congr 1
  obtain ⟨k, hk⟩ : ∃ k, 32 - q = k + 1 := ⟨31 - q, by omega⟩
  rw [hk, show 32 - (q + 1) = k by omega, List.replicate_succ]
  rfl
theorem outB_at (h : List Int) (i j : Nat) (hj : j < 4) : outB h (4 * i + j) = (h.getD i 0) / 2 ^ (24 - 8 * j) % 256 := by
  unfold outB
  rw [show (4 * i + j) / 4 = i by omega, show (4 * i + j) % 4 = j by omega]
theorem Cs_setB {w : World} {g : Nat} {bs : List Int} {e : TypeId} (h : Cs w g (bs.map bv).toArray e) (j : Nat) (x : Int) : Cs (w.setCell ⟨g, j, none⟩ (bv x)) g ((bs.set j x).map bv).toArray e := by
  have := h.set j (bv x)
  simpa [List.map_set] using this
structure SumO (w0 : World) (h : List Int) (w : World) : Prop where
  k2 : Cs w w0.heap.size ((List.replicate 32 0).map bv).toArray 25
  k3 : Ws 170 w (w0.heap.size + 1) h
  m : Mod (fun _ => False) w0 w
theorem SumO.mod {S : Nat → Prop} {w0 w w' : World} {h : List Int} (o : SumO w0 h w) (hm : Mod S w w') (hS : ∀ k, S k → w0.heap.size + 2 ≤ k) : SumO w0 h w' :=
  ⟨o.k2.mod hm (fun q => by have := hS _ q; omega), o.k3.mod hm (fun q => by have := hS _ q; omega), o.m.trans hm (fun k hk q => by have := hS _ q; omega)⟩
theorem SumO.put {w0 w w' : World} {h h' : List Int} (o : SumO w0 h w) (hm : Mod (fun k => k = w0.heap.size + 1) w w') (hs : Ws 170 w' (w0.heap.size + 1) h') : SumO w0 h' w' :=
  ⟨o.k2.mod hm (by omega), hs, o.m.trans hm (fun k hk q => by omega)⟩
/-- the padded bytes, in blocks of their own -/
def FulO (w0 : World) (w : World) (v : Value) (bs : List Int) : Prop := OwR (fun k => w0.heap.size + 2 ≤ k) bs.length w v bs
theorem FulO.mod {S : Nat → Prop} {w0 w w' : World} {v : Value} {bs : List Int} (o : FulO w0 w v bs) (hm : Mod S w w') (hS : ∀ k, S k → k < w0.heap.size + 2) : FulO w0 w' v bs := OwR.mod o hm (fun k h1 h2 => by have := hS k h2; omega)

set_option maxHeartbeats 4000000 in
theorem Sum_any (v : Value) (bs : List Int) (w : World) (h : RdB w v bs) (hlen : bs.length ≤ 900000) :
    Calls Try.prog 96 #[v] w fun e w' => e = .returned (hv (shaF bs)) ∧ Mod (fun _ => False) w w' := by
  have hbl := h.block_lt
  have HR := Lib.hid (show RdR (fun k => k < w.heap.size) bs.length w v bs from ⟨h, hbl, Nat.le_refl _⟩)
  obtain ⟨ao, cap, rfl, -, -⟩ := h.shape
  clear h hbl
  go_enter Try.func96, Try.ntmps96
  go_wp2_with ((with_reducible show wpList _ _ _ (Oper.mk none (Op.store 170 (.tmp 3) (.tmp 12)) _ _ _ _ :: _) _ _); go_must (refine wpList_storeA rfl 170 (.tmp 3) (.tmp 12) rfl (Cs_new1 _ _ _ _) (off := 0) (vs := H256.map wv) size_a8 (wv_one _) (by decide) rfl rfl ?_))
  intro w1 hc1 hm1
  rw [lay_whole _ _ (by decide)] at hc1
  have hO : SumO w H256 w1 := by
    refine ⟨?_, ?_, (((Mod.refl _ _).alloc _).alloc _).trans hm1 (by intro k h1 h2; (try dsimp only at h2); omega)⟩
    · refine Cs.mod (((Cs.new w _ _).alloc _)) hm1 (by simp)
    · exact hc1
  have KO := Lib.hid hO
  have z1 : w.heap.size + 2 ≤ w1.heap.size := by have := hO.k3.lt; omega
  clear hO hc1 hm1
  have HR1 := Lib.hid (HR.out.mod KO.out.m (fun _ _ h => h))
  go_wp2_with (at_builtin; go_must (refine wpList_appR rfl (.const (.slice none 0 0)) (.tmp 13) rfl rfl (R := fun k => w.heap.size + 2 ≤ k) (N := 0) (bs := []) ⟨OwnB.nil _, (fun g hg => by cases hg), Nat.le_refl _⟩ rfl HR1.out (by omega) ?_))
  intro ao2 cap2 w2 hq2 hm2
  have KO2 := Lib.hid (KO.out.mod hm2 (fun k hk => hk))
  have z2 := hm2.size
  have HQ2 := Lib.hid (show FulO w w2 (.slice ao2 bs.length cap2) bs from ⟨hq2.1, fun g hg => by have := hq2.2.1 g hg; unfold New at this; omega, Nat.le_refl _⟩)
  clear hq2 hm2 KO HR1
  go_wp2_with (at_builtin; go_must (refine wpList_appR1 rfl (.tmp 14) (.tmp 15) rfl rfl HQ2.out rfl (by omega) (by omega) (by omega) ?_))
  intro ao3 cap3 w3 hq3 hm3
  have KO3 := Lib.hid (KO2.out.mod hm3 (fun k hk => hk))
  have z3 := hm3.size
  have HQ3 := Lib.hid (show FulO w w3 (.slice ao3 (bs.length + 1) cap3) (padded bs 0) from ⟨by have := hq3.1; simpa [padded] using this, fun g hg => by have := hq3.2.1 g hg; unfold New at this; omega, by rw [padded_len]; omega⟩)
  clear hq3 hm3 KO2 HQ2
  have hz : padZ bs.length ≤ 63 := by unfold padZ; omega
  go_wp2
  go_loopw [4] (fun t4 wr => ∃ (j : Nat) (ao : Option Addr) (cap : Nat), t4 = .slice ao (bs.length + 1 + j) cap ∧ j ≤ padZ bs.length ∧ FulO w wr (.slice ao (bs.length + 1 + j) cap) (padded bs j) ∧ SumO w H256 wr) (fun t4 _ => bs.length + 1 + padZ bs.length - lenOf t4)
  case atStart => exact ⟨0, ao3, cap3, rfl, by omega, HQ3.out, KO3.out⟩
  case round =>
    obtain ⟨j, ao4, cap4, rfl, hj, hF, hO⟩ := hrel
    have hiff := pad_iff hj
    have KF := Lib.hid hF
    have KO := Lib.hid hO
    have zr := hO.k3.lt
    clear hF hO HQ3 KO3
    obtain ⟨n, hn⟩ : ∃ n, n = bs.length + 1 + j := ⟨_, rfl⟩
    rw [← hn] at KF hiff
    rw [← hn]
    have HN := Lib.hid hn
    have hnb : n ≤ 950000 := by omega
    clear hn
    by_cases hlt : j < padZ bs.length
    · have h56 : ¬ ((n : Int) % 64 = 56) := by omega
      clear hiff
      go_wp2_with (at_builtin; go_must (refine wpList_appR1 rfl (.tmp 21) (.tmp 22) rfl rfl KF.out rfl (by omega) (by omega) (by rw [padded_len]; omega) ?_))
      intro ao5 cap5 w5 hq5 hm5
      have KO5 := Lib.hid (KO.out.mod hm5 (fun k hk => hk))
      have z5 := hm5.size
      rw [padded_succ] at hq5
      have hl5 : (padded bs j).length = n := by rw [padded_len, HN.out]
      rw [hl5] at hq5 ⊢
      have hl6 := padded_len bs (j + 1)
      have HQ5 := Lib.hid (show FulO w w5 (.slice ao5 (n + 1) cap5) (padded bs (j + 1)) from ⟨hq5.1, fun g hg => by have := hq5.2.1 g hg; unfold New at this; omega, Nat.le_refl _⟩)
      clear hq5 hm5 hl5 hl6
      go_wp2
      go_roundw
      case rel => exact ⟨j + 1, ao5, cap5, by rw [HN.out, ← Nat.add_assoc], by omega, by have := HQ5.out; rw [HN.out, Nat.add_assoc] at this; exact this, KO5.out⟩
      case measure => have := HN.out; simp [lenOf]; omega
    · obtain rfl : j = padZ bs.length := by omega
      have h56 : (n : Int) % 64 = 56 := by omega
      have hl4 : (padded bs (padZ bs.length)).length = n := by rw [padded_len, HN.out]
      clear hiff
      go_wp2
      obtain ⟨x, hx⟩ : ∃ x : Int, x = (bs.length : Int) * 8 := ⟨_, rfl⟩
      rw [← hx]
      have HX := Lib.hid hx
      have HL4 := Lib.hid hl4
      clear hx hl4 h56
      have hfz : FulO w wr (.slice ao4 n cap4) (fullTo bs 0) := by have := KF.out; rw [show fullTo bs 0 = padded bs (padZ bs.length) by simp [fullTo]]; exact this
      have HF0 := Lib.hid hfz
      clear hfz KF
      go_loopw [4, 28] (fun t4 t28 wr => ∃ (i : Nat) (ao : Option Addr) (cap : Nat), t28 = .int .i64 i ∧ i ≤ 8 ∧ t4 = .slice ao (n + i) cap ∧ FulO w wr (.slice ao (n + i) cap) (fullTo bs i) ∧ SumO w H256 wr) (fun _ t28 _ => 8 - (intOf t28).toNat)
      case atStart => exact ⟨0, ao4, cap4, rfl, by omega, rfl, HF0.out, KO.out⟩
      case round =>
        obtain ⟨wi, rfl⟩ : ∃ x, x = wr := ⟨_, rfl⟩
        obtain ⟨i, ao6, cap6, rfl, hi, rfl, hF, hO⟩ := hrel
        clear KO HF0
        have KF := Lib.hid hF
        have KO := Lib.hid hO
        have zr2 := hO.k3.lt
        clear hF hO
        have hfl := fullTo_len bs i
        have hfl2 : (fullTo bs i).length = n + i := by rw [hfl, HN.out]
        have HFL := Lib.hid hfl2
        clear hfl hfl2
        by_cases hlt2 : i < 8
        · have hlb := lenB_byte bs.length i
          have hlv : lenB bs.length i = x / 2 ^ (56 - 8 * i) % 256 := by rw [HX.out]; rfl
          obtain ⟨y, hy⟩ : ∃ y, y = lenB bs.length i := ⟨_, rfl⟩
          rw [← hy] at hlb hlv
          have HY := Lib.hid hy
          have HV := Lib.hid hlv
          clear hy hlv
          have HI := Lib.hid (show i < 8 from hlt2)
          match i, hlt2 with
          | 0, _ =>
            have hv : y = x / 72057594037927936 % 256 := by rw [HV.out]; simp
            have HVV := Lib.hid hv
            rw [hv] at hlb
            clear hv
            go_wp2_with (at_builtin; go_must (refine wpList_appR1 rfl (.tmp 31) (.tmp 38) rfl rfl KF.out rfl hlb.1 hlb.2 (by rw [HFL.out]; omega) ?_))
            intro ao7 cap7 w7 hq7 hm7
            have KO7 := Lib.hid (KO.out.mod hm7 (fun k hk => hk))
            have z7 := hm7.size
            rw [← HVV.out, HY.out, fullTo_succ, HFL.out] at hq7
            rw [HFL.out]
            have hl7 := fullTo_len bs (0 + 1)
            have hl8 := HN.out
            have HQ7 := Lib.hid (show FulO w w7 (.slice ao7 (n + 0 + 1) cap7) (fullTo bs (0 + 1)) from ⟨hq7.1, fun g hg => by have := hq7.2.1 g hg; unfold New at this; omega, Nat.le_refl _⟩)
            clear hq7 hm7 hl7 hl8 hlb
            go_wp2
            go_roundw
            case rel => exact ⟨0 + 1, ao7, cap7, by go_num, by omega, rfl, HQ7.out, KO7.out⟩
            case measure => first | (simp [intOf]; done) | (simp [intOf]; omega)
          | 1, _ =>
            have hv : y = x / 281474976710656 % 256 := by rw [HV.out]; simp
            have HVV := Lib.hid hv
            rw [hv] at hlb
            clear hv
            go_wp2_with (at_builtin; go_must (refine wpList_appR1 rfl (.tmp 31) (.tmp 38) rfl rfl KF.out rfl hlb.1 hlb.2 (by rw [HFL.out]; omega) ?_))
            intro ao7 cap7 w7 hq7 hm7
            have KO7 := Lib.hid (KO.out.mod hm7 (fun k hk => hk))
            have z7 := hm7.size
            rw [← HVV.out, HY.out, fullTo_succ, HFL.out] at hq7
            rw [HFL.out]
            have hl7 := fullTo_len bs (1 + 1)
            have hl8 := HN.out
            have HQ7 := Lib.hid (show FulO w w7 (.slice ao7 (n + 1 + 1) cap7) (fullTo bs (1 + 1)) from ⟨hq7.1, fun g hg => by have := hq7.2.1 g hg; unfold New at this; omega, Nat.le_refl _⟩)
            clear hq7 hm7 hl7 hl8 hlb
            go_wp2
            go_roundw
            case rel => exact ⟨1 + 1, ao7, cap7, by go_num, by omega, rfl, HQ7.out, KO7.out⟩
            case measure => first | (simp [intOf]; done) | (simp [intOf]; omega)
          | 2, _ =>
            have hv : y = x / 1099511627776 % 256 := by rw [HV.out]; simp
            have HVV := Lib.hid hv
            rw [hv] at hlb
            clear hv
            go_wp2_with (at_builtin; go_must (refine wpList_appR1 rfl (.tmp 31) (.tmp 38) rfl rfl KF.out rfl hlb.1 hlb.2 (by rw [HFL.out]; omega) ?_))
            intro ao7 cap7 w7 hq7 hm7
            have KO7 := Lib.hid (KO.out.mod hm7 (fun k hk => hk))
            have z7 := hm7.size
            rw [← HVV.out, HY.out, fullTo_succ, HFL.out] at hq7
            rw [HFL.out]
            have hl7 := fullTo_len bs (2 + 1)
            have hl8 := HN.out
            have HQ7 := Lib.hid (show FulO w w7 (.slice ao7 (n + 2 + 1) cap7) (fullTo bs (2 + 1)) from ⟨hq7.1, fun g hg => by have := hq7.2.1 g hg; unfold New at this; omega, Nat.le_refl _⟩)
            clear hq7 hm7 hl7 hl8 hlb
            go_wp2
            go_roundw
            case rel => exact ⟨2 + 1, ao7, cap7, by go_num, by omega, rfl, HQ7.out, KO7.out⟩
            case measure => first | (simp [intOf]; done) | (simp [intOf]; omega)
          | 3, _ =>
            have hv : y = x / 4294967296 % 256 := by rw [HV.out]; simp
            have HVV := Lib.hid hv
            rw [hv] at hlb
            clear hv
            go_wp2_with (at_builtin; go_must (refine wpList_appR1 rfl (.tmp 31) (.tmp 38) rfl rfl KF.out rfl hlb.1 hlb.2 (by rw [HFL.out]; omega) ?_))
            intro ao7 cap7 w7 hq7 hm7
            have KO7 := Lib.hid (KO.out.mod hm7 (fun k hk => hk))
            have z7 := hm7.size
            rw [← HVV.out, HY.out, fullTo_succ, HFL.out] at hq7
            rw [HFL.out]
            have hl7 := fullTo_len bs (3 + 1)
            have hl8 := HN.out
            have HQ7 := Lib.hid (show FulO w w7 (.slice ao7 (n + 3 + 1) cap7) (fullTo bs (3 + 1)) from ⟨hq7.1, fun g hg => by have := hq7.2.1 g hg; unfold New at this; omega, Nat.le_refl _⟩)
            clear hq7 hm7 hl7 hl8 hlb
            go_wp2
            go_roundw
            case rel => exact ⟨3 + 1, ao7, cap7, by go_num, by omega, rfl, HQ7.out, KO7.out⟩
            case measure => first | (simp [intOf]; done) | (simp [intOf]; omega)
          | 4, _ =>
            have hv : y = x / 16777216 % 256 := by rw [HV.out]; simp
            have HVV := Lib.hid hv
            rw [hv] at hlb
            clear hv
            go_wp2_with (at_builtin; go_must (refine wpList_appR1 rfl (.tmp 31) (.tmp 38) rfl rfl KF.out rfl hlb.1 hlb.2 (by rw [HFL.out]; omega) ?_))
            intro ao7 cap7 w7 hq7 hm7
            have KO7 := Lib.hid (KO.out.mod hm7 (fun k hk => hk))
            have z7 := hm7.size
            rw [← HVV.out, HY.out, fullTo_succ, HFL.out] at hq7
            rw [HFL.out]
            have hl7 := fullTo_len bs (4 + 1)
            have hl8 := HN.out
            have HQ7 := Lib.hid (show FulO w w7 (.slice ao7 (n + 4 + 1) cap7) (fullTo bs (4 + 1)) from ⟨hq7.1, fun g hg => by have := hq7.2.1 g hg; unfold New at this; omega, Nat.le_refl _⟩)
            clear hq7 hm7 hl7 hl8 hlb
            go_wp2
            go_roundw
            case rel => exact ⟨4 + 1, ao7, cap7, by go_num, by omega, rfl, HQ7.out, KO7.out⟩
            case measure => first | (simp [intOf]; done) | (simp [intOf]; omega)
          | 5, _ =>
            have hv : y = x / 65536 % 256 := by rw [HV.out]; simp
            have HVV := Lib.hid hv
            rw [hv] at hlb
            clear hv
            go_wp2_with (at_builtin; go_must (refine wpList_appR1 rfl (.tmp 31) (.tmp 38) rfl rfl KF.out rfl hlb.1 hlb.2 (by rw [HFL.out]; omega) ?_))
            intro ao7 cap7 w7 hq7 hm7
            have KO7 := Lib.hid (KO.out.mod hm7 (fun k hk => hk))
            have z7 := hm7.size
            rw [← HVV.out, HY.out, fullTo_succ, HFL.out] at hq7
            rw [HFL.out]
            have hl7 := fullTo_len bs (5 + 1)
            have hl8 := HN.out
            have HQ7 := Lib.hid (show FulO w w7 (.slice ao7 (n + 5 + 1) cap7) (fullTo bs (5 + 1)) from ⟨hq7.1, fun g hg => by have := hq7.2.1 g hg; unfold New at this; omega, Nat.le_refl _⟩)
            clear hq7 hm7 hl7 hl8 hlb
            go_wp2
            go_roundw
            case rel => exact ⟨5 + 1, ao7, cap7, by go_num, by omega, rfl, HQ7.out, KO7.out⟩
            case measure => first | (simp [intOf]; done) | (simp [intOf]; omega)
          | 6, _ =>
            have hv : y = x / 256 % 256 := by rw [HV.out]; simp
            have HVV := Lib.hid hv
            rw [hv] at hlb
            clear hv
            go_wp2_with (at_builtin; go_must (refine wpList_appR1 rfl (.tmp 31) (.tmp 38) rfl rfl KF.out rfl hlb.1 hlb.2 (by rw [HFL.out]; omega) ?_))
            intro ao7 cap7 w7 hq7 hm7
            have KO7 := Lib.hid (KO.out.mod hm7 (fun k hk => hk))
            have z7 := hm7.size
            rw [← HVV.out, HY.out, fullTo_succ, HFL.out] at hq7
            rw [HFL.out]
            have hl7 := fullTo_len bs (6 + 1)
            have hl8 := HN.out
            have HQ7 := Lib.hid (show FulO w w7 (.slice ao7 (n + 6 + 1) cap7) (fullTo bs (6 + 1)) from ⟨hq7.1, fun g hg => by have := hq7.2.1 g hg; unfold New at this; omega, Nat.le_refl _⟩)
            clear hq7 hm7 hl7 hl8 hlb
            go_wp2
            go_roundw
            case rel => exact ⟨6 + 1, ao7, cap7, by go_num, by omega, rfl, HQ7.out, KO7.out⟩
            case measure => first | (simp [intOf]; done) | (simp [intOf]; omega)
          | 7, _ =>
            have hv : y = x % 256 := by rw [HV.out]; simp
            have HVV := Lib.hid hv
            rw [hv] at hlb
            clear hv
            go_wp2_with (at_builtin; go_must (refine wpList_appR1 rfl (.tmp 31) (.tmp 38) rfl rfl KF.out rfl hlb.1 hlb.2 (by rw [HFL.out]; omega) ?_))
            intro ao7 cap7 w7 hq7 hm7
            have KO7 := Lib.hid (KO.out.mod hm7 (fun k hk => hk))
            have z7 := hm7.size
            rw [← HVV.out, HY.out, fullTo_succ, HFL.out] at hq7
            rw [HFL.out]
            have hl7 := fullTo_len bs (7 + 1)
            have hl8 := HN.out
            have HQ7 := Lib.hid (show FulO w w7 (.slice ao7 (n + 7 + 1) cap7) (fullTo bs (7 + 1)) from ⟨hq7.1, fun g hg => by have := hq7.2.1 g hg; unfold New at this; omega, Nat.le_refl _⟩)
            clear hq7 hm7 hl7 hl8 hlb
            go_wp2
            go_roundw
            case rel => exact ⟨7 + 1, ao7, cap7, by go_num, by omega, rfl, HQ7.out, KO7.out⟩
            case measure => first | (simp [intOf]; done) | (simp [intOf]; omega)
        · obtain rfl : i = 8 := by omega
          obtain ⟨fb, hfb⟩ : ∃ fb, fb = fullB bs := ⟨_, rfl⟩
          have hL : fb.length = n + 8 := by rw [hfb]; exact HFL.out
          have hdiv : fb.length % 64 = 0 := by rw [hfb]; exact full_div bs
          have hFF : FulO w wi (.slice ao6 (n + 8) cap6) fb := by rw [hfb]; exact KF.out
          have HFB := Lib.hid hfb
          have HFF := Lib.hid hFF
          have HDIV := Lib.hid hdiv
          have HL := Lib.hid hL
          clear hfb hFF hL hdiv KF HFL
          rw [show ((8 : Nat) : Int) = 8 from rfl]
          go_wp2_with fail
          refine (rounds_any _).mono ?_
          rintro e w8 ⟨rfl, hm8⟩
          have z8 := hm8.size
          have KO8 := Lib.hid (KO.out.mod hm8 (fun k h => h.elim))
          have HF8 := HFF.out.rd.mod hm8 (fun k _ h => h.elim)
          have HF9 := Lib.hid (show RdR (fun k => w.heap.size + 2 ≤ k ∧ k < w8.heap.size) fb.length w8 (.slice ao6 (n + 8) cap6) fb from ⟨HF8.1, fun h0 g hg => ⟨HF8.2.1 h0 g hg, HF8.1.block_lt h0 g hg⟩, Nat.le_refl _⟩)
          have zr8 := KO8.out.k3.lt
          clear hm8 HF8 KO HFF
          have HKL := Lib.hid (show 0 + (K256.map wv).length ≤ 64 by rw [List.length_map, K256_len]; exact Nat.le_refl _)
          have HKS := Lib.hid (show (Try.prog.info? 171).map (·.size) = some (K256.map wv).length by rw [List.length_map, K256_len]; exact size_a64)
          go_wp2_with ((with_reducible show wpList _ _ _ (Oper.mk none (Op.store 171 (.tmp 7) (.tmp 41)) _ _ _ _ :: _) _ _); go_must (refine wpList_storeA rfl 171 (.tmp 7) (.tmp 41) rfl (Cs.new _ _ _) (off := 0) (vs := K256.map wv) HKS.out (wv_one _) HKL.out rfl rfl ?_))
          intro w9 hc9 hm9
          rw [lay_whole _ _ (by rw [List.length_map, K256_len]; rfl)] at hc9
          have hm9' : Mod (fun _ => False) w8 w9 := ((Mod.refl _ _).alloc _).trans hm9 (by intro k h1 h2; (try dsimp only at h2); omega)
          have z9 := hm9'.size
          have zg := Cs.lt hc9
          have KO9 := Lib.hid (KO8.out.mod hm9' (fun k h => h.elim))
          have KK := Lib.hid (show Ws 171 w9 w8.heap.size K256 from hc9)
          have HF10 := Lib.hid (HF9.out.mod hm9' (fun _ _ h => h))
          clear hc9 hm9 hm9' KO8 HF9 HKL
          obtain ⟨g7, hg7⟩ : ∃ g, g = w8.heap.size := ⟨_, rfl⟩
          rw [← hg7] at KK HF10 zg
          rw [← hg7]
          have hg72 : w.heap.size + 2 ≤ g7 := by omega
          clear hg7 z8 z9 zr8
          have hn8 : n + 8 ≤ 960000 := by omega
          go_wp2
          go_loopw [4] (fun t4 wr => ∃ (t m : Nat) (ao : Option Addr) (cap : Nat), t4 = .slice ao m cap ∧ m + 64 * t = n + 8 ∧ RdR (fun k => w.heap.size + 2 ≤ k ∧ k < g7) fb.length wr (.slice ao m cap) (fb.drop (64 * t)) ∧ SumO w (blocksTo fb t) wr ∧ Ws 171 wr g7 K256) (fun t4 _ => lenOf t4)
          case atStart => exact ⟨0, n + 8, ao6, cap6, rfl, by omega, HF10.out, KO9.out, KK.out⟩
          case round =>
            obtain ⟨wj, rfl⟩ : ∃ x, x = wr := ⟨_, rfl⟩
            obtain ⟨t, m, ao10, cap10, rfl, hm, hF, hO, hK⟩ := hrel
            have hfl : fb.length = n + 8 := HL.out
            have hdl : (fb.drop (64 * t)).length = m := by rw [List.length_drop]; omega
            have hcl := hF.1.len.2
            have hdv : m % 64 = 0 := by have := HDIV.out; omega
            have KF := Lib.hid hF
            have KO := Lib.hid hO
            have KK2 := Lib.hid hK
            have HDL := Lib.hid hdl
            have zj := hO.k3.lt
            have zk := hK.lt
            clear hF hO hK hfl hdl KO9 KK HF10
            by_cases hlt : 0 < m
            · have hm64 : 64 ≤ m := by omega
              have hlti : (0 : Int) < (m : Int) := by omega
              obtain ⟨H, hH⟩ : ∃ H, H = blocksTo fb t := ⟨_, rfl⟩
              have hHl : H.length = 8 := by rw [hH]; exact blocks_len fb t
              have hsucc := blocks_succ fb t
              rw [← hH] at KO hsucc
              have HS := Lib.hid hsucc
              have HHL := Lib.hid hHl
              have HSZ := Lib.hid (show (Try.prog.info? 170).map (·.size) = some (H.map wv).length by rw [List.length_map, hHl]; exact size_a8)
              have HKS2 := Lib.hid (show (Try.prog.info? 171).map (·.size) = some (K256.map wv).length from HKS.out)
              have HC8 := Lib.hid (show ∀ k u, (H.map wv)[k]? = some u → wj.cell? ⟨w.heap.size + 1, 0 + k, none⟩ = some u by intro k u hu; rw [Nat.zero_add, Cs.cell KO.out.k3]; simpa using hu)
              have HC64 := Lib.hid (show ∀ k u, (K256.map wv)[k]? = some u → wj.cell? ⟨g7, 0 + k, none⟩ = some u by intro k u hu; rw [Nat.zero_add, Cs.cell KK2.out]; simpa using hu)
              have hmix := mix_any H K256 hHl K256_len (.slice ao10 m cap10) (fb.drop (64 * t)) wj KF.out.1 (fun g hg => KF.out.1.block_lt (by have := HDL.out; omega) g hg) (by have := HDL.out; omega)
              rw [← hsucc] at hmix
              have HMIX := Lib.hid hmix
              clear hH hHl hsucc hmix
              go_upto_region 14 with (fail)
              go_step
              refine wpList_loadA rfl 170 (.tmp 3) rfl Try.underlying170 rfl (g := w.heap.size + 1) (off := 0) (cs := H.map wv) HSZ.out rfl HC8.out ?_
              simp only [Act.put, List.setIfInBounds_toArray, List.set_cons_zero, List.set_cons_succ]
              refine wpList_loadA rfl 171 (.tmp 7) rfl Try.underlying171 rfl (g := g7) (off := 0) (cs := K256.map wv) HKS2.out rfl HC64.out ?_
              simp only [Act.put, List.setIfInBounds_toArray, List.set_cons_zero, List.set_cons_succ]
              go_wp2_with fail
              refine (HMIX.out).mono ?_
              rintro e w10 ⟨rfl, hm10⟩
              obtain ⟨H2, hH2⟩ : ∃ H2, H2 = blocksTo fb (t + 1) := ⟨_, rfl⟩
              have hH2l : H2.length = 8 := by rw [hH2]; exact blocks_len fb (t + 1)
              rw [← hH2]
              have HH2 := Lib.hid hH2
              have HSZ2 := Lib.hid (show (Try.prog.info? 170).map (·.size) = some (H2.map wv).length by rw [List.length_map, hH2l]; exact size_a8)
              have HFT := Lib.hid (show 0 + (H2.map wv).length ≤ (H.map wv).toArray.size by simp [hH2l, HHL.out])
              have HLY := Lib.hid (lay_whole (H.map wv).toArray (H2.map wv) (by simp [hH2l, HHL.out]))
              have z10 := hm10.size
              have KO10 := Lib.hid (KO.out.mod hm10 (fun k h => h.elim))
              have KK10 := Lib.hid (KK2.out.mod hm10 (fun h => h))
              have KF10 := Lib.hid (KF.out.mod hm10 (fun _ _ h => h))
              clear hH2 hH2l hm10 KO KK2 KF HMIX HC8 HC64
              go_wp2_with ((with_reducible show wpList _ _ _ (Oper.mk none (Op.store 170 (.tmp 3) (.tmp 50)) _ _ _ _ :: _) _ _); go_must (refine wpList_storeA rfl 170 (.tmp 3) (.tmp 50) rfl KO10.out.k3 (off := 0) (vs := H2.map wv) HSZ2.out (wv_one _) HFT.out rfl rfl ?_))
              intro w11 hc11 hm11
              rw [HLY.out] at hc11
              have z11 := hm11.size
              have KO11 := Lib.hid (KO10.out.put hm11 hc11)
              have KK11 := Lib.hid (KK10.out.mod hm11 (by omega))
              have KF11 := KF10.out.mod hm11 (by intro k h1 h2; (try dsimp only at h1 h2); omega)
              have hdd : (fb.drop (64 * t)).drop 64 = fb.drop (64 * (t + 1)) := by rw [List.drop_drop]; congr 1
              clear hc11 hm11 KO10 KK10 KF10
              rw [HH2.out] at KO11
              by_cases hc64 : cap10 = 64
              · have hta := RdB.tail_at KF11.1 64 (by rw [HDL.out]; omega) hc64
                rw [hdd, HDL.out] at hta
                have HTA := Lib.hid (show RdR (fun k => w.heap.size + 2 ≤ k ∧ k < g7) fb.length w11 (.slice ao10 (m - 64) 0) (fb.drop (64 * (t + 1))) from ⟨hta, fun h0 g hg => KF11.2.1 (by rw [HDL.out]; omega) g (by cases ao10 <;> simp_all [Value.ownBlock]), by simp⟩)
                clear hta KF11 hdd
                go_wp2
                go_roundw
                case rel => exact ⟨t + 1, m - 64, ao10, 0, rfl, by omega, HTA.out, KO11.out, KK11.out⟩
                case measure => simp [lenOf]; omega
              · have hta := RdB.tail_in KF11.1 64 (by rw [HDL.out]; omega) hc64
                rw [hdd, HDL.out] at hta
                have HTA := Lib.hid (show RdR (fun k => w.heap.size + 2 ≤ k ∧ k < g7) fb.length w11 (.slice (ao10.map fun x => x.add 64) (m - 64) (cap10 - 64)) (fb.drop (64 * (t + 1))) from ⟨hta, fun h0 g hg => KF11.2.1 (by rw [HDL.out]; omega) g (by rw [← ownBlock_map ao10 64 (m - 64) (cap10 - 64) m cap10]; exact hg), by simp⟩)
                clear hta KF11 hdd
                go_wp2
                go_roundw
                case rel => exact ⟨t + 1, m - 64, ao10.map fun x => x.add 64, cap10 - 64, rfl, by omega, HTA.out, KO11.out, KK11.out⟩
                case measure => simp [lenOf]; omega
            · obtain rfl : m = 0 := by omega
              have hn0 : n + 8 = 64 * t := by omega
              have htl : t = fb.length / 64 := by have := HL.out; omega
              have hres : shaF bs = (List.range 32).map (outB (blocksTo fb t)) := by rw [htl, HFB.out]; rfl
              obtain ⟨H, hH⟩ : ∃ H, H = blocksTo fb t := ⟨_, rfl⟩
              have hHl : H.length = 8 := by rw [hH]; exact blocks_len fb t
              rw [← hH] at KO hres
              have HRES := Lib.hid (show outTo H 32 = shaF bs by rw [hres]; simp [outTo])
              have HHL := Lib.hid hHl
              have HSZ := Lib.hid (show (Try.prog.info? 170).map (·.size) = some (H.map wv).length by rw [List.length_map, hHl]; exact size_a8)
              have z12 := KO.out.k3.lt
              clear hH hHl hres htl hn0 hm KF KK2 HDL HL HFB HDIV HX hdv hlt
              go_upto_region 16 with (fail)
              obtain ⟨w12, hw12⟩ : ∃ x, x = wj.alloc (.cells ((List.replicate 32 0).map bv).toArray 25) := ⟨_, rfl⟩
              change Code.wp _ _ _ _ (wj.alloc (.cells ((List.replicate 32 0).map bv).toArray 25))
              rw [← hw12]
              have hm12 : Mod (fun _ => False) wj w12 := by rw [hw12]; exact (Mod.refl _ _).alloc _
              have KO12 := Lib.hid (KO.out.mod hm12 (fun k h => h.elim))
              have KT := Lib.hid (show Cs w12 wj.heap.size ((outTo H 0).map bv).toArray 25 by rw [hw12]; exact Cs.new _ _ _)
              have HC8 := Lib.hid (show ∀ k u, (H.map wv)[k]? = some u → w12.cell? ⟨w.heap.size + 1, 0 + k, none⟩ = some u by intro k u hu; rw [Nat.zero_add, Cs.cell KO12.out.k3]; simpa using hu)
              obtain ⟨g8, hg8⟩ : ∃ g, g = wj.heap.size := ⟨_, rfl⟩
              rw [← hg8] at KT z12
              rw [← hg8]
              clear hw12 hm12 KO hg8
              go_step
              refine wpList_loadA rfl 170 (.tmp 3) rfl Try.underlying170 rfl (g := w.heap.size + 1) (off := 0) (cs := H.map wv) HSZ.out rfl HC8.out ?_
              simp only [Act.put, List.setIfInBounds_toArray, List.set_cons_zero, List.set_cons_succ]
              clear HC8
              go_wp2
              go_loopw [52] (fun t52 wr => ∃ (i : Nat), t52 = .int .i64 i ∧ i ≤ 8 ∧ Cs wr g8 ((outTo H (4 * i)).map bv).toArray 25 ∧ SumO w H wr) (fun t52 _ => 8 - (intOf t52).toNat)
              case atStart => exact ⟨0, rfl, by omega, KT.out, KO12.out⟩
              case round =>
                obtain ⟨wk, rfl⟩ : ∃ x, x = wr := ⟨_, rfl⟩
                obtain ⟨i, rfl, hi, hT, hO⟩ := hrel
                clear KT KO12
                have KT := Lib.hid hT
                have KO := Lib.hid hO
                clear hT hO
                by_cases hlt : i < 8
                · obtain ⟨x, hx⟩ : ∃ x, x = H.getD i 0 := ⟨_, rfl⟩
                  have HX := Lib.hid hx
                  clear hx
                  have hsz1 : (Try.prog.info? 169).map (·.size) = some 1 := by kernel_rfl
                  have HS1 := Lib.hid hsz1
                  clear hsz1
                  go_wp2_with ((with_reducible show wpList _ _ _ (Oper.mk (some 55) _ _ _ _ _ :: _) _ _); go_must (refine wpList_idxA rfl 170 (.tmp 51) (.tmp 52) rfl (i := i) Try.underlying170 Try.underlying169 HS1.out H HHL.out hlt rfl rfl ?_); rw [← HX.out])
                  go_loopw [56] (fun t56 wr => ∃ (j : Nat), t56 = .int .i64 j ∧ j ≤ 4 ∧ Cs wr g8 ((outTo H (4 * i + j)).map bv).toArray 25 ∧ SumO w H wr) (fun t56 _ => 4 - (intOf t56).toNat)
                  case atStart => exact ⟨0, rfl, by omega, KT.out, KO.out⟩
                  case round =>
                    obtain ⟨wm, rfl⟩ : ∃ x, x = wr := ⟨_, rfl⟩
                    obtain ⟨j, rfl, hj, hT, hO⟩ := hrel
                    clear KT KO
                    have KT := Lib.hid hT
                    have KO := Lib.hid hO
                    clear hT hO
                    by_cases hlj : j < 4
                    · have hq : 4 * i + j < 32 := by omega
                      have hl32 := outTo_len H (4 * i + j) (by omega)
                      have hc : wm.cell? ⟨g8, 4 * i + j, none⟩ = some (bv ((outTo H (4 * i + j)).getD (4 * i + j) 0)) := by
                        rw [KT.out.cell]; simp [List.getD, hl32, hq]
                      have hf := KT.out.frozen (4 * i + j)
                      have hnext := Cs_setB KT.out (4 * i + j) (outB H (4 * i + j))
                      rw [outTo_succ H _ hq, outB_at H i j hlj, ← HX.out] at hnext
                      have hmm : Mod (fun k => k = g8) wm (wm.setCell ⟨g8, 4 * i + j, none⟩ (bv (x / 2 ^ (24 - 8 * j) % 256))) := Mod.setCell (Mod.refl (fun k => k = g8) wm) (p := ⟨g8, 4 * i + j, none⟩) (fun _ => rfl) _
                      have hon := KO.out.mod hmm (fun k hk => by omega)
                      have HNX := Lib.hid hnext
                      have HON := Lib.hid hon
                      generalize (outTo H (4 * i + j)).getD (4 * i + j) 0 = old at hc
                      clear hnext hmm hon hl32
                      have HJ := Lib.hid hlj
                      match j, hlj with
                      | 0, _ =>
                        have h1 := HNX.out
                        have h2 := HON.out
                        rw [show (2 : Int) ^ (24 - 8 * 0) = 16777216 from by decide] at h1 h2
                        simp only [Nat.add_zero] at hc hf
                        have H1 := Lib.hid h1
                        have H2 := Lib.hid h2
                        clear h1 h2 HNX HON
                        go_wp2
                        go_roundw
                        case rel => exact ⟨0 + 1, by go_num, by omega, H1.out, H2.out⟩
                        case measure => first | (simp [intOf]; done) | (simp [intOf]; omega)
                      | 1, _ =>
                        have h1 := HNX.out
                        have h2 := HON.out
                        rw [show (2 : Int) ^ (24 - 8 * 1) = 65536 from by decide] at h1 h2
                        skip
                        have H1 := Lib.hid h1
                        have H2 := Lib.hid h2
                        clear h1 h2 HNX HON
                        go_wp2
                        go_roundw
                        case rel => exact ⟨1 + 1, by go_num, by omega, H1.out, H2.out⟩
                        case measure => first | (simp [intOf]; done) | (simp [intOf]; omega)
                      | 2, _ =>
                        have h1 := HNX.out
                        have h2 := HON.out
                        rw [show (2 : Int) ^ (24 - 8 * 2) = 256 from by decide] at h1 h2
                        skip
                        have H1 := Lib.hid h1
                        have H2 := Lib.hid h2
                        clear h1 h2 HNX HON
                        go_wp2
                        go_roundw
                        case rel => exact ⟨2 + 1, by go_num, by omega, H1.out, H2.out⟩
                        case measure => first | (simp [intOf]; done) | (simp [intOf]; omega)
                      | 3, _ =>
                        have h1 := HNX.out
                        have h2 := HON.out
                        rw [show (2 : Int) ^ (24 - 8 * 3) = 1 from by decide, Int.ediv_one] at h1 h2
                        skip
                        have H1 := Lib.hid h1
                        have H2 := Lib.hid h2
                        clear h1 h2 HNX HON
                        go_wp2
                        go_roundw
                        case rel => exact ⟨3 + 1, by go_num, by omega, H1.out, H2.out⟩
                        case measure => first | (simp [intOf]; done) | (simp [intOf]; omega)
                    · obtain rfl : j = 4 := by omega
                      go_wp2
                      go_roundw
                      case rel => exact ⟨i + 1, by go_num, by omega, by have := KT.out; rw [show 4 * i + 4 = 4 * (i + 1) by omega] at this; exact this, KO.out⟩
                      case measure => first | (simp [intOf]; done) | (simp [intOf]; omega)
                · obtain rfl : i = 8 := by omega
                  have hF := HRES.out
                  obtain ⟨F, hFF⟩ : ∃ F, F = shaF bs := ⟨_, rfl⟩
                  rw [← hFF] at hF
                  have hFl : F.length = 32 := by rw [hFF]; exact shaF_len bs
                  have hT := KT.out
                  rw [show 4 * 8 = 32 from rfl, hF] at hT
                  have HT := Lib.hid hT
                  have HFF2 := Lib.hid hFF
                  have HSF := Lib.hid (show (Try.prog.info? 25).map (·.size) = some (F.map bv).length by rw [List.length_map, hFl]; exact size_hash)
                  have HCF := Lib.hid (show ∀ k u, (F.map bv)[k]? = some u → wk.cell? ⟨g8, 0 + k, none⟩ = some u by intro k u hu; rw [Nat.zero_add, HT.out.cell]; simpa using hu)
                  have HFF := Lib.hid (show 0 + (F.map bv).length ≤ ((List.replicate 32 0).map bv).toArray.size by simp [hFl])
                  have HLY := Lib.hid (lay_whole ((List.replicate 32 0).map bv).toArray (F.map bv) (by simp [hFl]))
                  clear hF hFF hFl hT KT
                  rw [show ((8 : Nat) : Int) = 8 from rfl]
                  go_upto_region 25 with (fail)
                  go_step
                  refine wpList_loadA rfl 25 (.tmp 8) rfl Try.underlying25 rfl (g := g8) (off := 0) (cs := F.map bv) HSF.out rfl HCF.out ?_
                  simp only [Act.put, List.setIfInBounds_toArray, List.set_cons_zero, List.set_cons_succ]
                  refine wpList_storeA rfl 25 (.tmp 2) (.tmp 72) rfl KO.out.k2 (vs := F.map bv) HSF.out (ints_oneCell .u8 _) HFF.out rfl rfl ?_
                  intro w20 hc20 hm20
                  rw [HLY.out] at hc20
                  go_wp2
                  refine bodyPost_ret (results_cellA rfl _ _ w.heap.size (F.map bv) rfl (fun k u hu => by rw [hc20.cell]; simpa using hu) Try.underlying25 rfl HSF.out) rfl ⟨by rw [HFF2.out]; rfl, KO.out.m.trans (hm20.mono (S' := fun k => k = w.heap.size) (fun k _ hk => hk)) (by intro k h1 h2; omega)⟩
end Go.Proofs.Ytknpapcfhnhheaa

/- A writer that a region fills, one call behind the other: the state for wp_region_G. -/
set_option maxRecDepth 100000
set_option linter.unusedVariables false
namespace Go.Proofs.Ytknpapcfhnhheaa
open Go Go.RowKit Go.Gv

end Go.Proofs.Ytknpapcfhnhheaa

/- commit.Of. -/
set_option maxRecDepth 100000
set_option linter.unusedVariables false
namespace Go.Proofs.Ytknpapcfhnhheaa
open Go Go.RowKit Go.Gv

def I64 (n : Int) : Prop := -9223372036854775808 ≤ n ∧ n ≤ 9223372036854775807
end Go.Proofs.Ytknpapcfhnhheaa

/- commit.Text. -/
set_option maxRecDepth 100000
set_option linter.unusedVariables false
namespace Go.Proofs.Ytknpapcfhnhheaa
open Go Go.RowKit Go.Gv

/-- a commitment -/
structure Cm where
  cl : Int
  sq : Int
  h : List Int
  ln : Int
  sb : Int
  mr : Int
def Cm.cells (c : Cm) : List Value := [.int .i64 c.cl, .int .i64 c.sq] ++ (c.h.map bv ++ [.int .i64 c.ln, .int .i64 c.sb, .int .i64 c.mr])
def Cm.val (c : Cm) : Value := .agg c.cells.toArray
/-- its numbers are numbers, its hash is one -/
def Cm.OK (c : Cm) : Prop := (I64 c.cl ∧ I64 c.sq ∧ I64 c.ln ∧ I64 c.sb ∧ I64 c.mr) ∧ c.h.length = 32 ∧ Bytes c.h
theorem Cm.len {c : Cm} (h : c.h.length = 32) : c.cells.length = 37 := by simp [Cm.cells, h]
theorem size_commit : (Try.prog.info? 49).map (·.size) = some 37 := by kernel_rfl
section
variable {w : World} {g : Nat} {c : Cm} {T : TypeId}
end
end Go.Proofs.Ytknpapcfhnhheaa
namespace Go.Gv
open Go Go.RowKit Go.Proofs.Ytknpapcfhnhheaa
section
variable {w : World} {g : Nat} {c : Cm} {T : TypeId}
theorem Cs.c0 (h : Cs w g c.cells.toArray T) : w.cell? ⟨g, 0, none⟩ = some (.int .i64 c.cl) := by rw [h.cell]; rfl
theorem Cs.c1 (h : Cs w g c.cells.toArray T) : w.cell? ⟨g, 1, none⟩ = some (.int .i64 c.sq) := by rw [h.cell]; rfl
theorem Cs.far (h : Cs w g c.cells.toArray T) (hl : c.h.length = 32) (j : Nat) : w.cell? ⟨g, 34 + j, none⟩ = ([Value.int .i64 c.ln, .int .i64 c.sb, .int .i64 c.mr] : List Value)[j]? := by
  rw [h.cell]
  simp only [List.getElem?_toArray, Cm.cells]
  rw [List.getElem?_append_right (by simp; omega), List.getElem?_append_right (by simp [hl]; omega)]
  simp only [List.length_cons, List.length_nil, List.length_map, hl]
  congr 1
  omega
theorem Cs.c34 (h : Cs w g c.cells.toArray T) (hl : c.h.length = 32) : w.cell? ⟨g, 34, none⟩ = some (.int .i64 c.ln) := Cs.far h hl 0
theorem Cs.hash (h : Cs w g c.cells.toArray T) : ∀ j u, (c.h.map bv)[j]? = some u → w.cell? ⟨g, 2 + j, none⟩ = some u := by
  intro j u hu
  rw [h.cell]
  simp only [List.getElem?_toArray, Cm.cells]
  rw [List.getElem?_append_right (by simp), List.getElem?_append_left (by simpa using (List.getElem?_eq_some_iff.1 hu).1)]
  simpa using hu
theorem Cs.name (h : Cs w g c.cells.toArray T) : ∀ j u, ([Value.int .i64 c.cl, .int .i64 c.sq] : List Value)[j]? = some u → w.cell? ⟨g, 0 + j, none⟩ = some u := by
  intro j u hu
  rw [Nat.zero_add, h.cell]
  simp only [List.getElem?_toArray, Cm.cells]
  rw [List.getElem?_append_left (List.getElem?_eq_some_iff.1 hu).1]
  exact hu
theorem Cs.sig (h : Cs w g c.cells.toArray T) (hl : c.h.length = 32) : ∀ j u, ([Value.int .i64 c.sb, .int .i64 c.mr] : List Value)[j]? = some u → w.cell? ⟨g, 35 + j, none⟩ = some u := by
  intro j u hu
  have := Cs.far h hl (1 + j)
  rw [show 34 + (1 + j) = 35 + j by omega] at this
  rw [this, Nat.add_comm]
  exact hu
theorem Cs.whole {cs : List Value} (h : Cs w g cs.toArray T) : ∀ j u, cs[j]? = some u → w.cell? ⟨g, 0 + j, none⟩ = some u := by
  intro j u hu
  rw [Nat.zero_add, h.cell]
  simpa using hu
end
end Go.Gv
namespace Go.Proofs.Ytknpapcfhnhheaa
open Go Go.RowKit Go.Gv
end Go.Proofs.Ytknpapcfhnhheaa

/- Hashes as keys of maps; zeros. -/
set_option maxRecDepth 100000
set_option linter.unusedVariables false
namespace Go.Proofs.Ytknpapcfhnhheaa
open Go Go.RowKit Go.Gv
open Go.Maps (Keyed)

/-- a hash -/
def HK (bs : List Int) : Prop := bs.length = 32 ∧ Bytes bs
end Go.Proofs.Ytknpapcfhnhheaa

/- The kinds of things that messages are made of: their cells, what reads as one. -/
set_option maxRecDepth 100000
set_option linter.unusedVariables false
namespace Go.Proofs.Ytknpapcfhnhheaa
open Go Go.RowKit Go.Gv

/-- a stamp, or an ack -/
structure St where
  rp : Int
  cl : Int
  sq : Int
  h : List Int
  tm : Nat
  sb : Int
  mr : Int
abbrev St.cells (x : St) : List Value := [.int .i64 x.rp, .int .i64 x.cl, .int .i64 x.sq] ++ (x.h.map bv ++ [.int .u64 (x.tm : Nat), .int .i64 x.sb, .int .i64 x.mr])
abbrev St.val (x : St) : Value := .agg x.cells.toArray
structure St.OK (x : St) : Prop where
  rp : I64 x.rp
  cl : I64 x.cl
  sq : I64 x.sq
  h : HK x.h
  tm : x.tm < U64
  sb : I64 x.sb
  mr : I64 x.mr
theorem St.len {x : St} (h : x.OK) : x.cells.length = 38 := by simp [St.cells, h.h.1]
theorem St.one (x : St) : ∀ u ∈ x.cells, u.oneCell' = true := by
  intro u hu
  simp only [St.cells, List.mem_append, List.mem_cons, List.not_mem_nil, or_false, List.mem_map] at hu
  rcases hu with (rfl | rfl | rfl) | ⟨y, -, rfl⟩ | rfl | rfl | rfl <;> rfl
def StR : Rep St := Rep.flat 38 (by decide) St.cells St.OK (fun a h => St.len h) (fun a _ => St.one a)
/-- a vote -/
structure Vt where
  kd : Int
  ep : Int
  rd : Int
  rp : Int
  h : List Int
  sb : Int
  mr : Int
abbrev Vt.cells (x : Vt) : List Value := [.int .i64 x.kd, .int .i64 x.ep, .int .i64 x.rd, .int .i64 x.rp] ++ (x.h.map bv ++ [.int .i64 x.sb, .int .i64 x.mr])
abbrev Vt.val (x : Vt) : Value := .agg x.cells.toArray
structure Vt.OK (x : Vt) : Prop where
  kd : I64 x.kd
  ep : I64 x.ep
  rd : I64 x.rd
  rp : I64 x.rp
  h : HK x.h
  sb : I64 x.sb
  mr : I64 x.mr
theorem Vt.len {x : Vt} (h : x.OK) : x.cells.length = 38 := by simp [Vt.cells, h.h.1]
theorem Vt.one (x : Vt) : ∀ u ∈ x.cells, u.oneCell' = true := by
  intro u hu
  simp only [Vt.cells, List.mem_append, List.mem_cons, List.not_mem_nil, or_false, List.mem_map] at hu
  rcases hu with (rfl | rfl | rfl | rfl) | ⟨y, -, rfl⟩ | rfl | rfl <;> rfl
def VtR : Rep Vt := Rep.flat 38 (by decide) Vt.cells Vt.OK (fun a h => Vt.len h) (fun a _ => Vt.one a)
/-- a denial -/
structure Dn where
  rp : Int
  ix : Int
  sb : Int
  mr : Int
abbrev Dn.cells (x : Dn) : List Value := [.int .i64 x.rp, .int .i64 x.ix, .int .i64 x.sb, .int .i64 x.mr]
abbrev Dn.val (x : Dn) : Value := .agg x.cells.toArray
structure Dn.OK (x : Dn) : Prop where
  rp : I64 x.rp
  ix : I64 x.ix
  sb : I64 x.sb
  mr : I64 x.mr
theorem Dn.len {x : Dn} (h : x.OK) : x.cells.length = 4 := by rfl
theorem Dn.one (x : Dn) : ∀ u ∈ x.cells, u.oneCell' = true := by
  intro u hu
  simp only [Dn.cells, List.mem_cons, List.not_mem_nil, or_false] at hu
  rcases hu with rfl | rfl | rfl | rfl <;> rfl
def DnR : Rep Dn := Rep.flat 4 (by decide) Dn.cells Dn.OK (fun a h => Dn.len h) (fun a _ => Dn.one a)
/-- an entry -/
structure En where
  cl : Int
  sq : Int
  h : List Int
  tm : Nat
abbrev En.cells (x : En) : List Value := [.int .i64 x.cl, .int .i64 x.sq] ++ (x.h.map bv ++ [.int .u64 (x.tm : Nat)])
abbrev En.val (x : En) : Value := .agg x.cells.toArray
structure En.OK (x : En) : Prop where
  cl : I64 x.cl
  sq : I64 x.sq
  h : HK x.h
  tm : x.tm < U64
theorem En.len {x : En} (h : x.OK) : x.cells.length = 35 := by simp [En.cells, h.h.1]
theorem En.one (x : En) : ∀ u ∈ x.cells, u.oneCell' = true := by
  intro u hu
  simp only [En.cells, List.mem_append, List.mem_cons, List.not_mem_nil, or_false, List.mem_map] at hu
  rcases hu with (rfl | rfl) | ⟨y, -, rfl⟩ | rfl <;> rfl
theorem RdR_keep {R : Nat → Prop} {N : Nat} {w w' : World} {v : Value} {bs : List Int} (h : RdR R N w v bs) (hk : ∀ p u, R p.block → w.cell? p = some u → w'.cell? p = some u) : RdR R N w' v bs :=
  ⟨⟨h.1.1, h.1.2.keepc fun h0 g hg p u hp hc => hk p u (hp ▸ h.2.1 h0 g hg) hc⟩, h.2⟩
theorem RdR_tight {R : Nat → Prop} {N : Nat} {w : World} {v : Value} {bs : List Int} (h : RdR R N w v bs) : RdR (fun k => R k ∧ k < w.heap.size) N w v bs :=
  ⟨h.1, fun h0 g hg => ⟨h.2.1 h0 g hg, h.1.2.lt (by decide) h0 hg⟩, h.2.2⟩
theorem Cm_one (c : Cm) : ∀ u ∈ c.cells, u.oneCell' = true := by
  intro u hu
  simp only [Cm.cells, List.mem_append, List.mem_cons, List.not_mem_nil, or_false, List.mem_map] at hu
  rcases hu with (rfl | rfl) | ⟨x, -, rfl⟩ | rfl | rfl | rfl <;> rfl
def CmR : Rep Cm := Rep.flat 37 (by decide) Cm.cells Cm.OK (fun a h => Cm.len h.2.1) (fun a _ => Cm_one a)
/-- a certificate -/
structure Ce where
  c : Cm
  l : List St
abbrev Ce.cells (x : Ce) (v_l : Value) : List Value := x.c.cells ++ [v_l]
def Ce.OK (x : Ce) : Prop := x.c.OK
def Ce.rd (R : Nat → Prop) (w : World) (cs : List Value) (x : Ce) : Prop := ∃ v_l, cs = x.cells v_l ∧ x.OK ∧ RdS StR R w v_l x.l
def CeR : Rep Ce where
  sz := 38
  pos := by decide
  rd := Ce.rd
  len h := by
    obtain ⟨v_l, rfl, hok, h0⟩ := h
    simp [Ce.cells, Cm.len hok.2.1]
  one h := by
    obtain ⟨v_l, rfl, hok, h0⟩ := h
    obtain ⟨_, _, e_l⟩ := h0.shape
    subst e_l
    intro u hu
    simp only [Ce.cells, List.mem_append, List.mem_cons, List.not_mem_nil, or_false, List.mem_map] at hu
    rcases hu with hu | rfl
    · exact Cm_one _ _ hu
    · rfl
  keep h hk := by
    obtain ⟨v_l, rfl, hok, h0⟩ := h
    exact ⟨_, rfl, hok, h0.keep hk⟩
  wid h hs := by
    obtain ⟨v_l, rfl, hok, h0⟩ := h
    exact ⟨_, rfl, hok, h0.widen hs⟩
  tight h := by
    obtain ⟨v_l, rfl, hok, h0⟩ := h
    exact ⟨_, rfl, hok, h0.tight⟩
/-- a promise -/
structure Pm where
  rp : Int
  ep : Int
  fl : Nat
  l : List Ce
  sb : Int
  mr : Int
abbrev Pm.cells (x : Pm) (v_l : Value) : List Value := [.int .i64 x.rp, .int .i64 x.ep, .int .u64 (x.fl : Nat), v_l, .int .i64 x.sb, .int .i64 x.mr]
def Pm.OK (x : Pm) : Prop := I64 x.rp ∧ I64 x.ep ∧ x.fl < U64 ∧ I64 x.sb ∧ I64 x.mr
def Pm.rd (R : Nat → Prop) (w : World) (cs : List Value) (x : Pm) : Prop := ∃ v_l, cs = x.cells v_l ∧ x.OK ∧ RdS CeR R w v_l x.l
def PmR : Rep Pm where
  sz := 6
  pos := by decide
  rd := Pm.rd
  len h := by
    obtain ⟨v_l, rfl, hok, h0⟩ := h
    rfl
  one h := by
    obtain ⟨v_l, rfl, hok, h0⟩ := h
    obtain ⟨_, _, e_l⟩ := h0.shape
    subst e_l
    intro u hu
    simp only [Pm.cells, List.mem_append, List.mem_cons, List.not_mem_nil, or_false, List.mem_map] at hu
    rcases hu with rfl | rfl | rfl | rfl | rfl | rfl <;> rfl
  keep h hk := by
    obtain ⟨v_l, rfl, hok, h0⟩ := h
    exact ⟨_, rfl, hok, h0.keep hk⟩
  wid h hs := by
    obtain ⟨v_l, rfl, hok, h0⟩ := h
    exact ⟨_, rfl, hok, h0.widen hs⟩
  tight h := by
    obtain ⟨v_l, rfl, hok, h0⟩ := h
    exact ⟨_, rfl, hok, h0.tight⟩
/-- an opening -/
structure Op where
  ix : Int
  pl : List Int
  nc : List Int
abbrev Op.cells (x : Op) (v_pl : Value) : List Value := [.int .i64 x.ix, v_pl] ++ x.nc.map bv
def Op.OK (x : Op) : Prop := I64 x.ix ∧ HK x.nc
def Op.rd (R : Nat → Prop) (w : World) (cs : List Value) (x : Op) : Prop := ∃ v_pl, cs = x.cells v_pl ∧ x.OK ∧ RdR R x.pl.length w v_pl x.pl
def OpR : Rep Op where
  sz := 34
  pos := by decide
  rd := Op.rd
  len h := by
    obtain ⟨v_pl, rfl, hok, h0⟩ := h
    simp [Op.cells, hok.2.1]
  one h := by
    obtain ⟨v_pl, rfl, hok, h0⟩ := h
    obtain ⟨_, _, e_pl⟩ := h0.shape
    subst e_pl
    intro u hu
    simp only [Op.cells, List.mem_append, List.mem_cons, List.not_mem_nil, or_false, List.mem_map] at hu
    rcases hu with (rfl | rfl) | ⟨y, -, rfl⟩ <;> rfl
  keep h hk := by
    obtain ⟨v_pl, rfl, hok, h0⟩ := h
    exact ⟨_, rfl, hok, RdR_keep h0 hk⟩
  wid h hs := by
    obtain ⟨v_pl, rfl, hok, h0⟩ := h
    exact ⟨_, rfl, hok, h0.widen hs (Nat.le_refl _)⟩
  tight h := by
    obtain ⟨v_pl, rfl, hok, h0⟩ := h
    exact ⟨_, rfl, hok, RdR_tight h0⟩
/-- a tombstone -/
structure Tb where
  ix : Int
  l : List Dn
abbrev Tb.cells (x : Tb) (v_l : Value) : List Value := [.int .i64 x.ix, v_l]
def Tb.OK (x : Tb) : Prop := I64 x.ix
def Tb.rd (R : Nat → Prop) (w : World) (cs : List Value) (x : Tb) : Prop := ∃ v_l, cs = x.cells v_l ∧ x.OK ∧ RdS DnR R w v_l x.l
def TbR : Rep Tb where
  sz := 2
  pos := by decide
  rd := Tb.rd
  len h := by
    obtain ⟨v_l, rfl, hok, h0⟩ := h
    rfl
  one h := by
    obtain ⟨v_l, rfl, hok, h0⟩ := h
    obtain ⟨_, _, e_l⟩ := h0.shape
    subst e_l
    intro u hu
    simp only [Tb.cells, List.mem_append, List.mem_cons, List.not_mem_nil, or_false, List.mem_map] at hu
    rcases hu with rfl | rfl <;> rfl
  keep h hk := by
    obtain ⟨v_l, rfl, hok, h0⟩ := h
    exact ⟨_, rfl, hok, h0.keep hk⟩
  wid h hs := by
    obtain ⟨v_l, rfl, hok, h0⟩ := h
    exact ⟨_, rfl, hok, h0.widen hs⟩
  tight h := by
    obtain ⟨v_l, rfl, hok, h0⟩ := h
    exact ⟨_, rfl, hok, h0.tight⟩
/-- a batch -/
structure Ba where
  ep : Int
  tm : Nat
  ps : List Pm
  os : List Op
  ts : List Tb
abbrev Ba.cells (x : Ba) (v_ps v_os v_ts : Value) : List Value := [.int .i64 x.ep, .int .u64 (x.tm : Nat), v_ps, v_os, v_ts]
def Ba.OK (x : Ba) : Prop := I64 x.ep ∧ x.tm < U64
def Ba.rd (R : Nat → Prop) (w : World) (cs : List Value) (x : Ba) : Prop := ∃ v_ps v_os v_ts, cs = x.cells v_ps v_os v_ts ∧ x.OK ∧ RdS PmR R w v_ps x.ps ∧ RdS OpR R w v_os x.os ∧ RdS TbR R w v_ts x.ts
def BaR : Rep Ba where
  sz := 5
  pos := by decide
  rd := Ba.rd
  len h := by
    obtain ⟨v_ps, v_os, v_ts, rfl, hok, h0, h1, h2⟩ := h
    rfl
  one h := by
    obtain ⟨v_ps, v_os, v_ts, rfl, hok, h0, h1, h2⟩ := h
    obtain ⟨_, _, e_ps⟩ := h0.shape
    obtain ⟨_, _, e_os⟩ := h1.shape
    obtain ⟨_, _, e_ts⟩ := h2.shape
    subst e_ps e_os e_ts
    intro u hu
    simp only [Ba.cells, List.mem_append, List.mem_cons, List.not_mem_nil, or_false, List.mem_map] at hu
    rcases hu with rfl | rfl | rfl | rfl | rfl <;> rfl
  keep h hk := by
    obtain ⟨v_ps, v_os, v_ts, rfl, hok, h0, h1, h2⟩ := h
    exact ⟨_, _, _, rfl, hok, h0.keep hk, h1.keep hk, h2.keep hk⟩
  wid h hs := by
    obtain ⟨v_ps, v_os, v_ts, rfl, hok, h0, h1, h2⟩ := h
    exact ⟨_, _, _, rfl, hok, h0.widen hs, h1.widen hs, h2.widen hs⟩
  tight h := by
    obtain ⟨v_ps, v_os, v_ts, rfl, hok, h0, h1, h2⟩ := h
    exact ⟨_, _, _, rfl, hok, h0.tight, h1.tight, h2.tight⟩
/-- a proposal -/
structure Pr where
  ep : Int
  rn : Int
  vl : Int
  rp : Int
  ba : Ba
  sb : Int
  mr : Int
abbrev Pr.cells (x : Pr) (v_ps v_os v_ts : Value) : List Value := [.int .i64 x.ep, .int .i64 x.rn, .int .i64 x.vl, .int .i64 x.rp, .int .i64 x.ba.ep, .int .u64 (x.ba.tm : Nat), v_ps, v_os, v_ts, .int .i64 x.sb, .int .i64 x.mr]
def Pr.OK (x : Pr) : Prop := I64 x.ep ∧ I64 x.rn ∧ I64 x.vl ∧ I64 x.rp ∧ x.ba.OK ∧ I64 x.sb ∧ I64 x.mr
def Pr.rd (R : Nat → Prop) (w : World) (cs : List Value) (x : Pr) : Prop := ∃ v_ps v_os v_ts, cs = x.cells v_ps v_os v_ts ∧ x.OK ∧ RdS PmR R w v_ps x.ba.ps ∧ RdS OpR R w v_os x.ba.os ∧ RdS TbR R w v_ts x.ba.ts
def PrR : Rep Pr where
  sz := 11
  pos := by decide
  rd := Pr.rd
  len h := by
    obtain ⟨v_ps, v_os, v_ts, rfl, hok, h0, h1, h2⟩ := h
    rfl
  one h := by
    obtain ⟨v_ps, v_os, v_ts, rfl, hok, h0, h1, h2⟩ := h
    obtain ⟨_, _, e_ps⟩ := h0.shape
    obtain ⟨_, _, e_os⟩ := h1.shape
    obtain ⟨_, _, e_ts⟩ := h2.shape
    subst e_ps e_os e_ts
    intro u hu
    simp only [Pr.cells, List.mem_append, List.mem_cons, List.not_mem_nil, or_false, List.mem_map] at hu
    rcases hu with rfl | rfl | rfl | rfl | rfl | rfl | rfl | rfl | rfl | rfl | rfl <;> rfl
  keep h hk := by
    obtain ⟨v_ps, v_os, v_ts, rfl, hok, h0, h1, h2⟩ := h
    exact ⟨_, _, _, rfl, hok, h0.keep hk, h1.keep hk, h2.keep hk⟩
  wid h hs := by
    obtain ⟨v_ps, v_os, v_ts, rfl, hok, h0, h1, h2⟩ := h
    exact ⟨_, _, _, rfl, hok, h0.widen hs, h1.widen hs, h2.widen hs⟩
  tight h := by
    obtain ⟨v_ps, v_os, v_ts, rfl, hok, h0, h1, h2⟩ := h
    exact ⟨_, _, _, rfl, hok, h0.tight, h1.tight, h2.tight⟩
end Go.Proofs.Ytknpapcfhnhheaa

/- Copies and cuts of lists of things. -/
set_option maxRecDepth 100000
set_option linter.unusedVariables false
namespace Go.Proofs.Ytknpapcfhnhheaa
open Go Go.RowKit Go.Gv

theorem info_St : (Try.prog.info? 30).map (fun i => (i.zero, i.size, i.bytes)) = some (some (.agg #[.int .i64 0, .int .i64 0, .int .i64 0, .int .u8 0, .int .u8 0, .int .u8 0, .int .u8 0, .int .u8 0, .int .u8 0, .int .u8 0, .int .u8 0, .int .u8 0, .int .u8 0, .int .u8 0, .int .u8 0, .int .u8 0, .int .u8 0, .int .u8 0, .int .u8 0, .int .u8 0, .int .u8 0, .int .u8 0, .int .u8 0, .int .u8 0, .int .u8 0, .int .u8 0, .int .u8 0, .int .u8 0, .int .u8 0, .int .u8 0, .int .u8 0, .int .u8 0, .int .u8 0, .int .u8 0, .int .u8 0, .int .u64 0, .int .i64 0, .int .i64 0]), 38, 80) := by kernel_rfl
theorem info_Dn : (Try.prog.info? 34).map (fun i => (i.zero, i.size, i.bytes)) = some (some (.agg #[.int .i64 0, .int .i64 0, .int .i64 0, .int .i64 0]), 4, 32) := by kernel_rfl
theorem info_Ce : (Try.prog.info? 52).map (fun i => (i.zero, i.size, i.bytes)) = some (some (.agg #[.int .i64 0, .int .i64 0, .int .u8 0, .int .u8 0, .int .u8 0, .int .u8 0, .int .u8 0, .int .u8 0, .int .u8 0, .int .u8 0, .int .u8 0, .int .u8 0, .int .u8 0, .int .u8 0, .int .u8 0, .int .u8 0, .int .u8 0, .int .u8 0, .int .u8 0, .int .u8 0, .int .u8 0, .int .u8 0, .int .u8 0, .int .u8 0, .int .u8 0, .int .u8 0, .int .u8 0, .int .u8 0, .int .u8 0, .int .u8 0, .int .u8 0, .int .u8 0, .int .u8 0, .int .u8 0, .int .i64 0, .int .i64 0, .int .i64 0, .slice none 0 0]), 38, 96) := by kernel_rfl
theorem info_Pm : (Try.prog.info? 55).map (fun i => (i.zero, i.size, i.bytes)) = some (some (.agg #[.int .i64 0, .int .i64 0, .int .u64 0, .slice none 0 0, .int .i64 0, .int .i64 0]), 6, 64) := by kernel_rfl
theorem info_Op : (Try.prog.info? 87).map (fun i => (i.zero, i.size, i.bytes)) = some (some (.agg #[.int .i64 0, .slice none 0 0, .int .u8 0, .int .u8 0, .int .u8 0, .int .u8 0, .int .u8 0, .int .u8 0, .int .u8 0, .int .u8 0, .int .u8 0, .int .u8 0, .int .u8 0, .int .u8 0, .int .u8 0, .int .u8 0, .int .u8 0, .int .u8 0, .int .u8 0, .int .u8 0, .int .u8 0, .int .u8 0, .int .u8 0, .int .u8 0, .int .u8 0, .int .u8 0, .int .u8 0, .int .u8 0, .int .u8 0, .int .u8 0, .int .u8 0, .int .u8 0, .int .u8 0, .int .u8 0]), 34, 64) := by kernel_rfl
theorem info_Tb : (Try.prog.info? 90).map (fun i => (i.zero, i.size, i.bytes)) = some (some (.agg #[.int .i64 0, .slice none 0 0]), 2, 32) := by kernel_rfl

/-- a function that copies a list of things; one that cuts it -/
def CopiesS {α : Type} (A : Rep α) (e : TypeId) (F : FuncId) : Prop := ∀ (R2 : Nat → Prop) (v : Value) (l : List α) (w : World), RdS A R2 w v l → (∀ k, R2 k → k < w.heap.size) → l.length ≤ 1000000 →
  Calls Try.prog F #[v] w fun e' w' => ∃ v', e' = .returned v' ∧ OwS A e (New w w') R2 w' v' l ∧ Mod (fun _ => False) w w'
def CutsS {α : Type} (A : Rep α) (e : TypeId) (F : FuncId) : Prop := ∀ (R2 : Nat → Prop) (v : Value) (l : List α) (n : Nat) (w : World), RdS A R2 w v l → (∀ k, R2 k → k < w.heap.size) → n ≤ 1000000 →
  Calls Try.prog F #[v, .int .i64 (n : Int)] w fun e' w' => ∃ v', e' = .returned v' ∧ OwS A e (New w w') R2 w' v' (l.take n) ∧ Mod (fun _ => False) w w'
set_option maxHeartbeats 2000000 in
theorem Copy_St : CopiesS StR 30 101 := by
  intro R2 v l w hs hB2 hl
  obtain ⟨ao, cap, rfl⟩ := hs.shape
  have HS := Lib.hid hs
  have HBT := Lib.hid hB2
  clear hs hB2
  go_enter Try.func101, Try.ntmps101
  go_upto_region 1 with (fail)
  have HM0 := hid (Mod.refl (fun _ => False) w)
  go_upto_region 1 with (fail)
  generalize ha0 : Act.mk _ _ = a0
  have oe0 : a0.eval (.tmp 0) = .slice ao l.length cap := by rw [← ha0]; rfl
  have hsz0 : a0.tmps.size = 5 := by rw [← ha0]; rfl
  have HA0 := hid ha0
  clear ha0
  refine wp_region_Q0 5 hsz0 [3, 4, 2] [qi (.slice ao l.length cap), qv 0, qv 0] ⟨qi_stable, qv_stable, qv_stable, trivial⟩ [1] ⟨?_, ?_, ?_, trivial⟩ ?_
  · exact stq (fun E => ex_move rfl (E.v oe0))
  · exact stepq_chain rfl
  · refine stepq_env rfl rfl rfl fun _ _ _ _ _ _ _ _ _ hd _ _ => ?_
    have h1 := hd ⟨1, .data⟩ (by simp) rfl _ rfl
    exact qe_run rfl (wanted_none rfl) (ex_assign rfl rfl) QE.refl h1
  intro u1_0 hr
  have zu1_0 := hr.size
  have Cx1 := hid (hr.new (S := (fun _ => False)))
  clear hr
  refine QChain.go fun Z act E => ?_
  refine qc_appS (A := StR) (e := 30) rfl (wanted_none rfl) rfl (.agg #[.int .i64 0, .int .i64 0, .int .i64 0, .int .u8 0, .int .u8 0, .int .u8 0, .int .u8 0, .int .u8 0, .int .u8 0, .int .u8 0, .int .u8 0, .int .u8 0, .int .u8 0, .int .u8 0, .int .u8 0, .int .u8 0, .int .u8 0, .int .u8 0, .int .u8 0, .int .u8 0, .int .u8 0, .int .u8 0, .int .u8 0, .int .u8 0, .int .u8 0, .int .u8 0, .int .u8 0, .int .u8 0, .int .u8 0, .int .u8 0, .int .u8 0, .int .u8 0, .int .u8 0, .int .u8 0, .int .u8 0, .int .u64 0, .int .i64 0, .int .i64 0]) 80 Try.underlying50 info_St (by rfl) (of_decide_eq_true (by kernel_rfl)) rfl (E.d 0) (OwS.nil _ _ (fun _ => False) (fun _ => False) _) ((HS.out.mod Cx1.out (fun _ _ h => h))) (fun _ _ h => h) (by simp only [List.length_nil]; omega) (by simp only [List.length_nil]; rw [maxLen_val]; omega) ?_
  intro ao1 cap1 u1_1a qout hm
  have zu1_1a := hm.size
  refine ⟨hm.mono (fun _ _ h => h.elim), (fun _ => rfl), ?_⟩
  intro u1_1 hr
  have zu1_1 := hr.size
  have Hx2 := hid ((qout.widen (R' := (fun k => (New u1_0 u1_1a k))) (E' := (fun k => (R2 k))) (fun _ h => h.elim (fun h => h.elim) (fun h => h)) (by intro k h1; rcases h1 with h1 | h1 <;> first | omega | exact h1.elim | exact h1)).mod hr (by intro k h1 h2; omega) (by intro k h1 h2; have hb := HBT.out k h1; omega))
  have Cx3 := hid (Cx1.out.go hm hr)
  clear Cx1 hm hr Z act E qout
  refine QChain.nil fun vs hl hzz hrows hne => ?_
  obtain ⟨Z, hYZ, hZb, hV⟩ := hzz
  have f0 := fvi hV hl 0
  have f1 := fvc hV hl 1
  have f2 := fvc hV hl 2
  rw [show vs = [gw vs 0, gw vs 1, gw vs 2] from (gw_eta hl).trans rfl]
  have ha0 := HA0.out
  subst ha0
  clear HA0 hV hYZ hZb hsz0 hrows hne oe0
  simp only [putAll, Act.put, List.setIfInBounds_toArray, List.set_cons_zero, List.set_cons_succ, f0, f1, f2]
  clear hl f0 f1 f2
  go_wp2
  go_ret
  have hq := Hx2.out
  exact ⟨_, rfl, hq.widen (by intro k h; omega) (by intro k h; exact h), (HM0.out.trans Cx3.out (fun _ _ h => h.elim))⟩
set_option maxHeartbeats 2000000 in
theorem Copy_Dn : CopiesS DnR 34 93 := by
  intro R2 v l w hs hB2 hl
  obtain ⟨ao, cap, rfl⟩ := hs.shape
  have HS := Lib.hid hs
  have HBT := Lib.hid hB2
  clear hs hB2
  go_enter Try.func93, Try.ntmps93
  go_upto_region 1 with (fail)
  have HM0 := hid (Mod.refl (fun _ => False) w)
  go_upto_region 1 with (fail)
  generalize ha0 : Act.mk _ _ = a0
  have oe0 : a0.eval (.tmp 0) = .slice ao l.length cap := by rw [← ha0]; rfl
  have hsz0 : a0.tmps.size = 5 := by rw [← ha0]; rfl
  have HA0 := hid ha0
  clear ha0
  refine wp_region_Q0 5 hsz0 [3, 4, 2] [qi (.slice ao l.length cap), qv 0, qv 0] ⟨qi_stable, qv_stable, qv_stable, trivial⟩ [1] ⟨?_, ?_, ?_, trivial⟩ ?_
  · exact stq (fun E => ex_move rfl (E.v oe0))
  · exact stepq_chain rfl
  · refine stepq_env rfl rfl rfl fun _ _ _ _ _ _ _ _ _ hd _ _ => ?_
    have h1 := hd ⟨1, .data⟩ (by simp) rfl _ rfl
    exact qe_run rfl (wanted_none rfl) (ex_assign rfl rfl) QE.refl h1
  intro u1_0 hr
  have zu1_0 := hr.size
  have Cx1 := hid (hr.new (S := (fun _ => False)))
  clear hr
  refine QChain.go fun Z act E => ?_
  refine qc_appS (A := DnR) (e := 34) rfl (wanted_none rfl) rfl (.agg #[.int .i64 0, .int .i64 0, .int .i64 0, .int .i64 0]) 32 Try.underlying88 info_Dn (by rfl) (of_decide_eq_true (by kernel_rfl)) rfl (E.d 0) (OwS.nil _ _ (fun _ => False) (fun _ => False) _) ((HS.out.mod Cx1.out (fun _ _ h => h))) (fun _ _ h => h) (by simp only [List.length_nil]; omega) (by simp only [List.length_nil]; rw [maxLen_val]; omega) ?_
  intro ao1 cap1 u1_1a qout hm
  have zu1_1a := hm.size
  refine ⟨hm.mono (fun _ _ h => h.elim), (fun _ => rfl), ?_⟩
  intro u1_1 hr
  have zu1_1 := hr.size
  have Hx2 := hid ((qout.widen (R' := (fun k => (New u1_0 u1_1a k))) (E' := (fun k => (R2 k))) (fun _ h => h.elim (fun h => h.elim) (fun h => h)) (by intro k h1; rcases h1 with h1 | h1 <;> first | omega | exact h1.elim | exact h1)).mod hr (by intro k h1 h2; omega) (by intro k h1 h2; have hb := HBT.out k h1; omega))
  have Cx3 := hid (Cx1.out.go hm hr)
  clear Cx1 hm hr Z act E qout
  refine QChain.nil fun vs hl hzz hrows hne => ?_
  obtain ⟨Z, hYZ, hZb, hV⟩ := hzz
  have f0 := fvi hV hl 0
  have f1 := fvc hV hl 1
  have f2 := fvc hV hl 2
  rw [show vs = [gw vs 0, gw vs 1, gw vs 2] from (gw_eta hl).trans rfl]
  have ha0 := HA0.out
  subst ha0
  clear HA0 hV hYZ hZb hsz0 hrows hne oe0
  simp only [putAll, Act.put, List.setIfInBounds_toArray, List.set_cons_zero, List.set_cons_succ, f0, f1, f2]
  clear hl f0 f1 f2
  go_wp2
  go_ret
  have hq := Hx2.out
  exact ⟨_, rfl, hq.widen (by intro k h; omega) (by intro k h; exact h), (HM0.out.trans Cx3.out (fun _ _ h => h.elim))⟩
set_option maxHeartbeats 2000000 in
theorem Cut_St : CutsS StR 30 72 := by
  intro R2 v l n w hs hB2 hn
  obtain ⟨css, k1, k2, ⟨k3, ao, cap, rfl, hlc, hcm, k5, k6⟩, k7⟩ := id hs
  clear k1 k2 k3 k5 k6 k7
  rw [maxLen_val] at hcm
  have HS := Lib.hid hs
  have HBT := Lib.hid hB2
  clear hs hB2
  clear css
  go_enter Try.func72, Try.ntmps72
  go_upto_region 1 with (fail)
  have HM0 := hid (Mod.refl (fun _ => False) w)
  go_upto_region 1 with (fail)
  generalize ha0 : Act.mk _ _ = a0
  have oe0 : a0.eval (.tmp 0) = .slice ao l.length cap := by rw [← ha0]; rfl
  have oe1 : a0.eval (.tmp 1) = .int .i64 ((n : Nat) : Int) := by rw [← ha0]; rfl
  have hsz0 : a0.tmps.size = 12 := by rw [← ha0]; rfl
  have HA0 := hid ha0
  clear ha0
  refine wp_region_Q0 12 hsz0 [5, 6, 7, 8, 9, 10, 11, 4] [qi (.slice ao l.length cap), qi (.slice ao l.length cap), qi (.int .i64 l.length), qi (.int .i64 ((n : Nat) : Int)), qi (.int .i64 ((min l.length n : Nat) : Int)), qi (.slice ao (min l.length n) cap), qv 0, qv 0] ⟨qi_stable, qi_stable, qi_stable, qi_stable, qi_stable, qi_stable, qv_stable, qv_stable, trivial⟩ [6] ⟨?_, ?_, ?_, ?_, ?_, ?_, ?_, ?_, trivial⟩ ?_
  · exact stq (fun E => ex_move rfl (E.v oe0))
  · exact stq (fun E => ex_move rfl (E.v oe0))
  · exact stq (fun E => ex_lenS rfl (E.d 1) Try.underlying50)
  · exact stq (fun E => ex_move rfl (E.v oe1))
  · exact stq (fun E => ex_min (r := ((min l.length n : Nat) : Int)) rfl (E.d 2) (E.d 3) (by split <;> omega))
  · exact stq (fun E => ex_sliceTo (i := min l.length n) (s := 38) rfl Try.underlying50 (by kernel_rfl) (E.d 0) (E.d 4) (by omega))
  · exact stepq_chain rfl
  · refine stepq_env rfl rfl rfl fun _ _ _ _ _ _ _ _ _ hd _ _ => ?_
    have h6 := hd ⟨6, .data⟩ (by simp) rfl _ rfl
    exact qe_run rfl (wanted_none rfl) (ex_assign rfl rfl) QE.refl h6
  intro u1_0 hr
  have zu1_0 := hr.size
  have Cx1 := hid (hr.new (S := (fun _ => False)))
  clear hr
  refine QChain.go fun Z act E => ?_
  refine qc_callF (args := #[.slice ao (min l.length n) cap]) rfl (wanted_none rfl) rfl Try.func101 (args1 (E.d 5)) (Copy_St _ _ (l.take (min l.length n)) _ ((HS.out.mod Cx1.out (fun _ _ h => h)).upto (min l.length n) (by omega)) (by intro k h1; have hb := HBT.out k h1; omega) (by simp; omega)) ?_
  rintro e u1_1a ⟨v', rfl, qout, hm⟩
  have zu1_1a := hm.size
  refine ⟨_, rfl, hm.mono (fun _ _ h => h.elim), (fun _ => rfl), ?_⟩
  intro u1_1 hr
  have zu1_1 := hr.size
  have Hx2 := hid ((qout.widen (R' := (fun k => (New u1_0 u1_1a k))) (E' := (fun k => (R2 k))) (fun _ h => h) (fun _ h => h)).mod hr (by intro k h1 h2; omega) (by intro k h1 h2; have hb := HBT.out k h1; omega))
  have Cx3 := hid (Cx1.out.go hm hr)
  clear Cx1 hm hr Z act E qout
  refine QChain.nil fun vs hl hzz hrows hne => ?_
  obtain ⟨Z, hYZ, hZb, hV⟩ := hzz
  have f0 := fvi hV hl 0
  have f1 := fvi hV hl 1
  have f2 := fvi hV hl 2
  have f3 := fvi hV hl 3
  have f4 := fvi hV hl 4
  have f6 := fvc hV hl 6
  have f7 := fvc hV hl 7
  rw [show vs = [gw vs 0, gw vs 1, gw vs 2, gw vs 3, gw vs 4, gw vs 5, gw vs 6, gw vs 7] from (gw_eta hl).trans rfl]
  have ha0 := HA0.out
  subst ha0
  clear HA0 hV hYZ hZb hsz0 hrows hne oe0 oe1
  simp only [putAll, Act.put, List.setIfInBounds_toArray, List.set_cons_zero, List.set_cons_succ, f0, f1, f2, f3, f4, f6, f7]
  clear hl f0 f1 f2 f3 f4 f6 f7
  go_wp2
  go_ret
  have hq := Hx2.out
  rw [show l.take (min l.length n) = l.take n by rw [Nat.min_comm, ← List.take_take, List.take_length]] at hq
  exact ⟨v', rfl, hq.widen (by intro k h; omega) (fun _ h => h), (HM0.out.trans Cx3.out (fun _ _ h => h.elim))⟩
set_option maxHeartbeats 2000000 in
theorem Cut_Dn : CutsS DnR 34 78 := by
  intro R2 v l n w hs hB2 hn
  obtain ⟨css, k1, k2, ⟨k3, ao, cap, rfl, hlc, hcm, k5, k6⟩, k7⟩ := id hs
  clear k1 k2 k3 k5 k6 k7
  rw [maxLen_val] at hcm
  have HS := Lib.hid hs
  have HBT := Lib.hid hB2
  clear hs hB2
  clear css
  go_enter Try.func78, Try.ntmps78
  go_upto_region 1 with (fail)
  have HM0 := hid (Mod.refl (fun _ => False) w)
  go_upto_region 1 with (fail)
  generalize ha0 : Act.mk _ _ = a0
  have oe0 : a0.eval (.tmp 0) = .slice ao l.length cap := by rw [← ha0]; rfl
  have oe1 : a0.eval (.tmp 1) = .int .i64 ((n : Nat) : Int) := by rw [← ha0]; rfl
  have hsz0 : a0.tmps.size = 12 := by rw [← ha0]; rfl
  have HA0 := hid ha0
  clear ha0
  refine wp_region_Q0 12 hsz0 [5, 6, 7, 8, 9, 10, 11, 4] [qi (.slice ao l.length cap), qi (.slice ao l.length cap), qi (.int .i64 l.length), qi (.int .i64 ((n : Nat) : Int)), qi (.int .i64 ((min l.length n : Nat) : Int)), qi (.slice ao (min l.length n) cap), qv 0, qv 0] ⟨qi_stable, qi_stable, qi_stable, qi_stable, qi_stable, qi_stable, qv_stable, qv_stable, trivial⟩ [6] ⟨?_, ?_, ?_, ?_, ?_, ?_, ?_, ?_, trivial⟩ ?_
  · exact stq (fun E => ex_move rfl (E.v oe0))
  · exact stq (fun E => ex_move rfl (E.v oe0))
  · exact stq (fun E => ex_lenS rfl (E.d 1) Try.underlying88)
  · exact stq (fun E => ex_move rfl (E.v oe1))
  · exact stq (fun E => ex_min (r := ((min l.length n : Nat) : Int)) rfl (E.d 2) (E.d 3) (by split <;> omega))
  · exact stq (fun E => ex_sliceTo (i := min l.length n) (s := 4) rfl Try.underlying88 (by kernel_rfl) (E.d 0) (E.d 4) (by omega))
  · exact stepq_chain rfl
  · refine stepq_env rfl rfl rfl fun _ _ _ _ _ _ _ _ _ hd _ _ => ?_
    have h6 := hd ⟨6, .data⟩ (by simp) rfl _ rfl
    exact qe_run rfl (wanted_none rfl) (ex_assign rfl rfl) QE.refl h6
  intro u1_0 hr
  have zu1_0 := hr.size
  have Cx1 := hid (hr.new (S := (fun _ => False)))
  clear hr
  refine QChain.go fun Z act E => ?_
  refine qc_callF (args := #[.slice ao (min l.length n) cap]) rfl (wanted_none rfl) rfl Try.func93 (args1 (E.d 5)) (Copy_Dn _ _ (l.take (min l.length n)) _ ((HS.out.mod Cx1.out (fun _ _ h => h)).upto (min l.length n) (by omega)) (by intro k h1; have hb := HBT.out k h1; omega) (by simp; omega)) ?_
  rintro e u1_1a ⟨v', rfl, qout, hm⟩
  have zu1_1a := hm.size
  refine ⟨_, rfl, hm.mono (fun _ _ h => h.elim), (fun _ => rfl), ?_⟩
  intro u1_1 hr
  have zu1_1 := hr.size
  have Hx2 := hid ((qout.widen (R' := (fun k => (New u1_0 u1_1a k))) (E' := (fun k => (R2 k))) (fun _ h => h) (fun _ h => h)).mod hr (by intro k h1 h2; omega) (by intro k h1 h2; have hb := HBT.out k h1; omega))
  have Cx3 := hid (Cx1.out.go hm hr)
  clear Cx1 hm hr Z act E qout
  refine QChain.nil fun vs hl hzz hrows hne => ?_
  obtain ⟨Z, hYZ, hZb, hV⟩ := hzz
  have f0 := fvi hV hl 0
  have f1 := fvi hV hl 1
  have f2 := fvi hV hl 2
  have f3 := fvi hV hl 3
  have f4 := fvi hV hl 4
  have f6 := fvc hV hl 6
  have f7 := fvc hV hl 7
  rw [show vs = [gw vs 0, gw vs 1, gw vs 2, gw vs 3, gw vs 4, gw vs 5, gw vs 6, gw vs 7] from (gw_eta hl).trans rfl]
  have ha0 := HA0.out
  subst ha0
  clear HA0 hV hYZ hZb hsz0 hrows hne oe0 oe1
  simp only [putAll, Act.put, List.setIfInBounds_toArray, List.set_cons_zero, List.set_cons_succ, f0, f1, f2, f3, f4, f6, f7]
  clear hl f0 f1 f2 f3 f4 f6 f7
  go_wp2
  go_ret
  have hq := Hx2.out
  rw [show l.take (min l.length n) = l.take n by rw [Nat.min_comm, ← List.take_take, List.take_length]] at hq
  exact ⟨v', rfl, hq.widen (by intro k h; omega) (fun _ h => h), (HM0.out.trans Cx3.out (fun _ _ h => h.elim))⟩
end Go.Proofs.Ytknpapcfhnhheaa

/- Certificates and promises that are cut. -/
set_option maxRecDepth 100000
set_option linter.unusedVariables false
namespace Go.Proofs.Ytknpapcfhnhheaa
open Go Go.RowKit Go.Gv


/-- what the laws leave of a certificate, a promise -/
def cutCe (x : Ce) : Ce := { x with l := x.l.take 5 }
def cutPm (x : Pm) : Pm := { x with l := (x.l.take 3).map cutCe }
/-- a function that gives a thing anew, cut -/
def CutR {α : Type} (A : Rep α) (F : FuncId) (f : α → α) : Prop := ∀ (R2 : Nat → Prop) (x : α) (cs : List Value) (w : World), A.rd R2 w cs x → (∀ k, R2 k → k < w.heap.size) →
  Calls Try.prog F #[.agg cs.toArray] w fun e w' => ∃ cs', e = .returned (.agg cs'.toArray) ∧ A.rd (fun k => R2 k ∨ New w w' k) w' cs' (f x) ∧ Mod (fun _ => False) w w'
theorem size_ce : (Try.prog.info? 52).map (·.size) = some (37 + 1) := by kernel_rfl
theorem one_ce (c : Cm) (v : Value) (h : v.oneCell' = true) : ∀ u ∈ c.cells ++ [v], u.oneCell' = true := by
  intro u hu
  rw [List.mem_append] at hu
  rcases hu with hu | hu
  · exact Cm_one _ _ hu
  · simp at hu; subst hu; exact h
theorem take_two {α : Type} {l : List α} {k n : Nat} (hk : k ≤ n) (h : k = n ∨ l.length ≤ k) : l.take k = l.take n := by
  rcases h with rfl | h
  · rfl
  · rw [List.take_of_length_le h, List.take_of_length_le (by omega)]
theorem lay_l (c : Cm) (u v : Value) (hl : c.h.length = 32) : lay (c.cells ++ [u]).toArray 37 [v] = (c.cells ++ [v]).toArray := by
  have h37 := Cm.len hl
  simp [lay, h37]
set_option maxHeartbeats 4000000 in
theorem LCert_c : CutR CeR 21 cutCe := by
  intro R2 x cs w hx hB2
  obtain ⟨v_l, rfl, hok, hs0⟩ := hx
  obtain ⟨ao, cap, rfl⟩ := hs0.shape
  have HS := Lib.hid hs0
  have HBT := Lib.hid hB2
  have HOK := Lib.hid hok
  clear hs0 hB2 hok
  go_enter Try.func21, Try.ntmps21
  go_upto_region 1 with (fail)
  obtain ⟨w1, hw1⟩ : ∃ zz, zz = ((w.alloc (.cells (x.cells (.slice ao x.l.length cap) : List Value).toArray 52)).alloc (.cells #[.int .i64 0, .int .i64 0, .int .u8 0, .int .u8 0, .int .u8 0, .int .u8 0, .int .u8 0, .int .u8 0, .int .u8 0, .int .u8 0, .int .u8 0, .int .u8 0, .int .u8 0, .int .u8 0, .int .u8 0, .int .u8 0, .int .u8 0, .int .u8 0, .int .u8 0, .int .u8 0, .int .u8 0, .int .u8 0, .int .u8 0, .int .u8 0, .int .u8 0, .int .u8 0, .int .u8 0, .int .u8 0, .int .u8 0, .int .u8 0, .int .u8 0, .int .u8 0, .int .u8 0, .int .u8 0, .int .i64 0, .int .i64 0, .int .i64 0, .slice none 0 0] 52)) := ⟨_, rfl⟩
  change Code.wp _ _ _ _ ((w.alloc (.cells (x.cells (.slice ao x.l.length cap) : List Value).toArray 52)).alloc (.cells #[.int .i64 0, .int .i64 0, .int .u8 0, .int .u8 0, .int .u8 0, .int .u8 0, .int .u8 0, .int .u8 0, .int .u8 0, .int .u8 0, .int .u8 0, .int .u8 0, .int .u8 0, .int .u8 0, .int .u8 0, .int .u8 0, .int .u8 0, .int .u8 0, .int .u8 0, .int .u8 0, .int .u8 0, .int .u8 0, .int .u8 0, .int .u8 0, .int .u8 0, .int .u8 0, .int .u8 0, .int .u8 0, .int .u8 0, .int .u8 0, .int .u8 0, .int .u8 0, .int .u8 0, .int .u8 0, .int .i64 0, .int .i64 0, .int .i64 0, .slice none 0 0] 52))
  rw [← hw1]
  have HB1 := hid (show Cs w1 (w.heap.size) (x.cells (.slice ao x.l.length cap) : List Value).toArray 52 by rw [hw1]; exact (Cs.new _ _ _).alloc _)
  have HB2 := hid (show Cs w1 (w.heap.size + 1) #[.int .i64 0, .int .i64 0, .int .u8 0, .int .u8 0, .int .u8 0, .int .u8 0, .int .u8 0, .int .u8 0, .int .u8 0, .int .u8 0, .int .u8 0, .int .u8 0, .int .u8 0, .int .u8 0, .int .u8 0, .int .u8 0, .int .u8 0, .int .u8 0, .int .u8 0, .int .u8 0, .int .u8 0, .int .u8 0, .int .u8 0, .int .u8 0, .int .u8 0, .int .u8 0, .int .u8 0, .int .u8 0, .int .u8 0, .int .u8 0, .int .u8 0, .int .u8 0, .int .u8 0, .int .u8 0, .int .i64 0, .int .i64 0, .int .i64 0, .slice none 0 0] 52 by rw [hw1]; exact Cs_newN _ _ _ (by simp))
  have hm : Mod (fun _ => False) w w1 := by rw [hw1]; exact ((Mod.refl _ _).alloc _).alloc _
  have HM0 := hid (show Mod (fun _ => False) w w1 from hm.mono (fun _ _ h => h.elim))
  have hs1 : w1.heap.size = w.heap.size + 2 := by rw [hw1]; simp
  have Hx1 := hid (HS.out.mod hm (fun _ _ h => h))
  clear HS
  clear hw1 hm
  go_upto_region 1 with (fail)
  generalize ha0 : Act.mk _ _ = a0
  have oe1 : a0.eval (.tmp 1) = .pointer (some ⟨w.heap.size, 0, none⟩) := by rw [← ha0]; rfl
  have hsz0 : a0.tmps.size = 8 := by rw [← ha0]; rfl
  have HA0 := hid ha0
  clear ha0
  refine wp_region_Q1 8 hsz0 [3, 4, 5, 6, 12] (fun k => (k = w.heap.size)) (fun k j => (k = 1 ∧ ((j = w.heap.size)))) (fun _ _ h => h.2) [qi (.pointer (some ⟨w.heap.size, 37, none⟩)), qi (.slice ao x.l.length cap), qv 0, qi (.pointer (some ⟨w.heap.size, 37, none⟩)), qv 1] ⟨qi_stable, qi_stable, qv_stable, qi_stable, qv_stable, trivial⟩ [2, 4] ⟨?_, ?_, ?_, ?_, ?_, trivial⟩ ?_
  · exact stq (fun E => ex_field rfl Try.underlying52 rfl (by kernel_rfl) (E.v oe1))
  · refine stepq_env rfl rfl rfl fun _ _ _ _ _ _ hm0 _ _ hd hub _ => ?_
    have h0 := hd ⟨0, .data⟩ (by simp) rfl _ rfl
    refine qe_run rfl (wanted_none rfl) (ex_load1 rfl Try.underlying50 rfl h0 (Cs.post1 (pre := []) (mid := x.c.cells) (post := [.slice ao x.l.length cap]) (m := 37) (k := 0) (HB1.out.mod hm0 (by intro h2; have hu := hub 1 4 rfl (by kernel_rfl); rcases h2 with ⟨h0, kk, hk, h2⟩ | h2 <;> omega)) (Cm.len HOK.out.2.1) rfl rfl)) QE.refl ?_
    rfl
  · exact stepq_chain rfl
  · exact stq (fun E => ex_field rfl Try.underlying52 rfl (by kernel_rfl) (E.v oe1))
  · exact stepq_chain rfl
  intro u1_0 hr
  have zu1_0 := hr.size
  have Cx2 := hid (hr.new (S := (fun k => (k = w.heap.size))))
  have Hx3 := hid (HB1.out.mod hr (by intro h2; omega))
  clear HB1
  clear hr
  refine QChain.go fun Z act E => ?_
  refine qc_callF (args := #[.slice ao x.l.length cap, .int .i64 5]) rfl (wanted_none rfl) rfl Try.func72 (args2 (E.d 1) rfl) (Cut_St _ _ x.l 5 _ (Hx1.out.mod Cx2.out (by intro k h1 h2; have hb := HBT.out k h1; omega)) (by intro k h1; have hb := HBT.out k h1; omega) (by omega)) ?_
  rintro e u1_1a ⟨v', rfl, qout, hm⟩
  obtain ⟨ao', cap', rfl⟩ := qout.shape
  have zu1_1a := hm.size
  refine ⟨_, rfl, hm.mono (fun _ _ h => h.elim), (fun _ => rfl), ?_⟩
  intro u1_1 hr
  have zu1_1 := hr.size
  have Hx4 := hid ((qout.widen (R' := (fun k => (New u1_0 u1_1a k))) (E' := (fun k => (R2 k))) (fun _ h => h) (fun _ h => h)).mod hr (by intro k h1 h2; omega) (by intro k h1 h2; have hb := HBT.out k h1; omega))
  have hmr := Mod.after hm hr
  have Hx5 := hid (Hx3.out.mod hmr (by intro h2; omega))
  clear Hx3
  clear hmr
  have Cx6 := hid (Cx2.out.go hm hr)
  clear Cx2 hm hr Z act E qout
  refine QChain.go fun Z act E => ?_
  refine qc_store rfl (wanted_none rfl) rfl Hx5.out (off := 37) (vs := [Value.slice ao' (x.l.take 5).length cap']) (by kernel_rfl) (by intro u hu; simp at hu; subst hu; rfl) (by simp [Ce.cells, Cm.len HOK.out.2.1]) (E.d 3) (by rw [show act.eval ((.tmp 5)) = _ from (chv (v := .slice ao' (x.l.take 5).length cap') (E.d 2))]; rfl) ?_
  intro u1_2a qc0 hm
  have qB1 : Cs u1_2a (w.heap.size) ((x.c.cells ++ [Value.slice ao' (x.l.take 5).length cap']) : List Value).toArray 52 := by rw [show lay _ 37 _ = ((x.c.cells ++ [Value.slice ao' (x.l.take 5).length cap']) : List Value).toArray from lay_l x.c _ _ HOK.out.2.1] at qc0; exact qc0
  clear qc0
  have zu1_2a := hm.size
  refine ⟨hm.mono (by intro k hk h; omega), (fun _ => rfl), ?_⟩
  intro u1_2 hr
  have zu1_2 := hr.size
  have Hx7 := hid (qB1.mod hr (by intro h2; omega))
  have hmr := hm.two hr
  have Hx8 := hid (Hx4.out.mod hmr (by intro k h1 h2; omega) (by intro k h1 h2; have hb := HBT.out k h1; omega))
  clear Hx4
  clear hmr
  have Cx9 := hid (Cx6.out.goM hm hr (fun _ _ h => h))
  clear Cx6 hm hr Z act E qB1 Hx5
  refine QChain.nil fun vs hl hzz hrows hne => ?_
  obtain ⟨Z, hYZ, hZb, hV⟩ := hzz
  have f2 := fvc hV hl 2
  rw [show vs = [gw vs 0, gw vs 1, gw vs 2, gw vs 3, gw vs 4] from (gw_eta hl).trans rfl]
  have ha0 := HA0.out
  subst ha0
  clear HA0 hV hYZ hZb hsz0 hrows hne oe1
  simp only [putAll, Act.put, List.setIfInBounds_toArray, List.set_cons_zero, List.set_cons_succ, List.set_nil, f2]
  clear hl f2
  go_upto_region 2 with (fail)
  generalize ha0 : Act.mk _ _ = a0
  have oe1 : a0.eval (.tmp 1) = .pointer (some ⟨w.heap.size, 0, none⟩) := by rw [← ha0]; rfl
  have oe2 : a0.eval (.tmp 2) = .pointer (some ⟨w.heap.size + 1, 0, none⟩) := by rw [← ha0]; rfl
  have hsz0 : a0.tmps.size = 8 := by rw [← ha0]; rfl
  have HA0 := hid ha0
  clear ha0
  refine wp_region_Q1 8 hsz0 [7, 9] (fun k => (k = w.heap.size + 1)) (fun k j => (k = 0 ∧ ((j = w.heap.size + 1)))) (fun _ _ h => h.2) [qi (.agg (x.c.cells ++ [Value.slice ao' (x.l.take 5).length cap']).toArray), qv 0] ⟨qi_stable, qv_stable, trivial⟩ [1] ⟨?_, ?_, trivial⟩ ?_
  · exact stq (fun E => ex_loadA rfl Try.underlying52 rfl (off := 0) (cs := x.c.cells ++ [Value.slice ao' (x.l.take 5).length cap']) (by rw [List.length_append, Cm.len HOK.out.2.1]; exact size_ce) (E.v oe1) (Cs.whole (Hx7.out.mod E.m (by intro h2; omega))))
  · exact stepq_chain rfl
  intro u2_0 hr
  have zu2_0 := hr.size
  have Cx10 := hid (hr.new (S := (fun k => (k = w.heap.size + 1))))
  have Hx11 := hid ((HB2.out.mod Cx9.out (by intro h2; omega)).mod hr (by intro h2; omega))
  clear HB2
  clear hr
  refine QChain.go fun Z act E => ?_
  refine qc_store rfl (wanted_none rfl) rfl Hx11.out (off := 0) (vs := (x.c.cells ++ [Value.slice ao' (x.l.take 5).length cap'])) (by rw [List.length_append, Cm.len HOK.out.2.1]; exact size_ce) (one_ce _ _ rfl) (by simp [Cm.len HOK.out.2.1]) (E.v oe2) (by rw [show act.eval ((.tmp 7)) = _ from (E.d 0)]; rfl) ?_
  intro u2_1a qc0 hm
  have qB2 : Cs u2_1a (w.heap.size + 1) ((x.c.cells ++ [Value.slice ao' (x.l.take 5).length cap']) : List Value).toArray 52 := by rw [show lay _ 0 _ = ((x.c.cells ++ [Value.slice ao' (x.l.take 5).length cap']) : List Value).toArray from lay_whole _ _ (by simp [Cm.len HOK.out.2.1])] at qc0; exact qc0
  clear qc0
  have zu2_1a := hm.size
  refine ⟨hm.mono (by intro k hk h; omega), (fun _ => rfl), ?_⟩
  intro u2_1 hr
  have zu2_1 := hr.size
  have Hx12 := hid (qB2.mod hr (by intro h2; omega))
  have Cx13 := hid (Cx10.out.goM hm hr (fun _ _ h => h))
  clear Cx10 hm hr Z act E qB2 Hx11
  refine QChain.nil fun vs hl hzz hrows hne => ?_
  obtain ⟨Z, hYZ, hZb, hV⟩ := hzz
  rw [show vs = [gw vs 0, gw vs 1] from (gw_eta hl).trans rfl]
  have ha0 := HA0.out
  subst ha0
  clear HA0 hV hYZ hZb hsz0 hrows hne oe1 oe2
  simp only [putAll, Act.put, List.setIfInBounds_toArray, List.set_cons_zero, List.set_cons_succ, List.set_nil]
  clear hl
  go_wp2
  have hq := (Hx8.out.mod Cx13.out (by intro k h1 h2; omega) (by intro k h1 h2; have hb := HBT.out k h1; omega))
  refine bodyPost_ret (results_cellA rfl _ _ (w.heap.size + 1) (x.c.cells ++ [Value.slice ao' (x.l.take 5).length cap']) rfl (fun k u hu => by rw [Hx12.out.cell]; simpa using hu) Try.underlying52 rfl (by rw [List.length_append, Cm.len HOK.out.2.1]; exact size_ce)) rfl ⟨_, rfl, ⟨_, rfl, HOK.out, hq.rd.widen ?_⟩, ((HM0.out.trans Cx9.out (by intro k h1 h2; omega)).trans Cx13.out (by intro k h1 h2; omega))⟩
  intro k h
  (try dsimp only at h ⊢)
  rcases h with h | h
  · right; omega
  · exact Or.inl h
set_option maxHeartbeats 4000000 in
theorem LPromise_c : CutR PmR 23 cutPm := by
  intro R2 x cs w hx hB2
  obtain ⟨v_l, rfl, hok, hs0⟩ := hx
  obtain ⟨ao, cap, rfl⟩ := hs0.shape
  have HS := Lib.hid hs0
  have HBT := Lib.hid hB2
  have HOK := Lib.hid hok
  clear hs0 hB2 hok
  go_enter Try.func23, Try.ntmps23
  go_upto_region 1 with (fail)
  obtain ⟨w1, hw1⟩ : ∃ zz, zz = ((w.alloc (.cells (x.cells (.slice ao x.l.length cap) : List Value).toArray 55)).alloc (.cells #[.int .i64 0, .int .i64 0, .int .u64 0, .slice none 0 0, .int .i64 0, .int .i64 0] 55)) := ⟨_, rfl⟩
  change Code.wp _ _ _ _ ((w.alloc (.cells (x.cells (.slice ao x.l.length cap) : List Value).toArray 55)).alloc (.cells #[.int .i64 0, .int .i64 0, .int .u64 0, .slice none 0 0, .int .i64 0, .int .i64 0] 55))
  rw [← hw1]
  have HB1 := hid (show Cs w1 (w.heap.size) (x.cells (.slice ao x.l.length cap) : List Value).toArray 55 by rw [hw1]; exact (Cs.new _ _ _).alloc _)
  have HB2 := hid (show Cs w1 (w.heap.size + 1) #[.int .i64 0, .int .i64 0, .int .u64 0, .slice none 0 0, .int .i64 0, .int .i64 0] 55 by rw [hw1]; exact Cs_newN _ _ _ (by simp))
  have hm : Mod (fun _ => False) w w1 := by rw [hw1]; exact ((Mod.refl _ _).alloc _).alloc _
  have HM0 := hid (show Mod (fun _ => False) w w1 from hm.mono (fun _ _ h => h.elim))
  have hs1 : w1.heap.size = w.heap.size + 2 := by rw [hw1]; simp
  have Hx1 := hid (HS.out.mod hm (fun _ _ h => h))
  clear HS
  clear hw1 hm
  go_wp2
  go_loopw [3, 4] (fun ta ti wr => ∃ k : Nat, ti = .int .i64 (k : Int) ∧ k ≤ x.l.length ∧ k ≤ 3 ∧ w1.heap.size ≤ wr.heap.size ∧ OwS CeR 52 (fun b => w1.heap.size ≤ b ∧ b < wr.heap.size) (fun b => R2 b ∨ (w1.heap.size ≤ b ∧ b < wr.heap.size)) wr ta ((x.l.take k).map cutCe) ∧ RdS CeR R2 wr (.slice ao x.l.length cap) x.l ∧ Cs wr (w.heap.size) (x.cells (.slice ao x.l.length cap) : List Value).toArray 55 ∧ Cs wr (w.heap.size + 1) #[.int .i64 0, .int .i64 0, .int .u64 0, .slice none 0 0, .int .i64 0, .int .i64 0] 55 ∧ Mod (fun _ => False) w wr) (fun _ ti _ => x.l.length - (intOf ti).toNat)
  case atStart => exact ⟨0, rfl, Nat.zero_le _, Nat.zero_le _, Nat.le_refl _, OwS.nil _ _ _ _ _, Hx1.out, HB1.out, HB2.out, HM0.out⟩
  case round =>
    obtain ⟨k1, rfl, hk, hkN, hz, ha, hk_0, hk_1, hk_2, hm⟩ := hrel
    obtain ⟨wl1, rfl⟩ : ∃ x, x = wr := ⟨_, rfl⟩
    obtain ⟨aol1, capl1, rfl⟩ := ha.shape
    have HAL1 := Lib.hid ha
    have HKL1_0 := Lib.hid hk_0
    have HKL1_1 := Lib.hid hk_1
    have HKL1_2 := Lib.hid hk_2
    have HML1 := Lib.hid hm
    clear ha hm hk_0 hk_1 hk_2 Hx1 HB1 HB2 HM0
    by_cases hlt1 : k1 < x.l.length ∧ k1 < 3
    · obtain ⟨hlt1, hlN1⟩ := hlt1
      go_upto_region 3 with (fail)
      generalize ha0 : Act.mk _ _ = a0
      have oe1 : a0.eval (.tmp 1) = .pointer (some ⟨w.heap.size, 0, none⟩) := by rw [← ha0]; rfl
      have oe4 : a0.eval (.tmp 4) = .int .i64 ((k1 : Nat) : Int) := by rw [← ha0]; rfl
      have hsz0 : a0.tmps.size = 28 := by rw [← ha0]; rfl
      have HA0 := hid ha0
      clear ha0
      refine wp_region_Q0 28 hsz0 [5, 6, 7, 8, 9, 10, 11, 12, 13] [qi (.int .i64 ((k1 : Nat) : Int)), qi (.pointer (some ⟨w.heap.size, 3, none⟩)), qi (.slice ao x.l.length cap), qi (.int .i64 x.l.length), qi (.bool true), qi (.bool true), qi (.int .i64 ((k1 : Nat) : Int)), qi (.bool true), qi (.bool true)] ⟨qi_stable, qi_stable, qi_stable, qi_stable, qi_stable, qi_stable, qi_stable, qi_stable, qi_stable, trivial⟩ [] ⟨?_, ?_, ?_, ?_, ?_, ?_, ?_, ?_, ?_, trivial⟩ ?_
      · exact stq (fun E => ex_move rfl (E.v oe4))
      · exact stq (fun E => ex_field rfl Try.underlying55 rfl (by kernel_rfl) (E.v oe1))
      · exact stq (fun E => ex_load1 rfl Try.underlying53 rfl (E.d 1) (Cs.lit1 (HKL1_1.out.mod E.m.old (by intro h2; omega)) rfl))
      · exact stq (fun E => ex_lenS rfl (E.d 2) Try.underlying53)
      · exact stq (fun E => ex_binE rfl (E.d 0) (E.d 3) (guard_ints _ _ _ _ _ _) (run_lss_i _ _ _ Try.underlying3) (congrArg Value.bool (decide_eq_true (by omega))))
      · exact stq (fun E => ex_move rfl (E.d 4))
      · refine stepq_env rfl rfl rfl fun _ _ _ _ _ _ _ hout hsz hd _ _ => ?_
        have h5 := hd ⟨5, .guard⟩ (by simp) rfl _ rfl
        refine qe_run rfl ((wanted_of rfl rfl (hsz 10 (by decide)) h5).trans rfl) (ex_move rfl ((hout 4 (by decide)).trans oe4)) QE.refl ?_
        rfl
      · refine stepq_env rfl rfl rfl fun _ _ _ _ _ _ _ _ hsz hd _ _ => ?_
        have h5 := hd ⟨5, .guard⟩ (by simp) rfl _ rfl
        have h6 := hd ⟨6, .data⟩ (by simp) rfl _ rfl
        refine qe_run rfl ((wanted_of rfl rfl (hsz 10 (by decide)) h5).trans rfl) (ex_binE rfl h6 rfl (guard_ints _ _ _ _ _ _) (run_lss_i _ _ _ Try.underlying3) (congrArg Value.bool (decide_eq_true (by omega)))) QE.refl ?_
        rfl
      · exact stq (fun E => ex_pick rfl (E.d 5) (E.d 7) rfl)
      intro u3_0 hr
      have zu3_0 := hr.size
      have Cx2 := hid (hr.new (S := (fun _ => False)))
      clear hr
      refine QChain.nil fun vs hl hzz hrows hne => ?_
      obtain ⟨Z, hYZ, hZb, hV⟩ := hzz
      have f0 := fvi hV hl 0
      have f3 := fvi hV hl 3
      have f5 := fvi hV hl 5
      have f6 := fvi hV hl 6
      have f8 := fvi hV hl 8
      rw [show vs = [gw vs 0, gw vs 1, gw vs 2, gw vs 3, gw vs 4, gw vs 5, gw vs 6, gw vs 7, gw vs 8] from (gw_eta hl).trans rfl]
      have ha0 := HA0.out
      subst ha0
      clear HA0 hV hYZ hZb hsz0 hrows hne oe1 oe4
      simp only [putAll, Act.put, List.setIfInBounds_toArray, List.set_cons_zero, List.set_cons_succ, f0, f3, f5, f6, f8]
      clear hl f0 f3 f5 f6 f8
      have hat := (HKL1_0.out.mod Cx2.out (fun _ _ h => h)).at hlt1
      obtain ⟨g1, o1, cs1, eao, hrg, hrd, hcs⟩ := hat
      subst eao
      have hcl : cs1.length = 38 := CeR.len hrd
      have HCL1 := Lib.hid hcl
      have HAT1 := hid (show CellsAt R2 u3_0 g1 (o1 + k1 * 38) cs1 from ⟨hrg, hcs⟩)
      have HRD1 := Lib.hid hrd
      have HOC1 := hid (CeR.one hrd)
      clear hcl hcs hrd hrg
      have HE1 : Hid (((x.l.take k1).map cutCe) ++ [cutCe x.l[k1]] = (x.l.take (k1 + 1)).map cutCe) := hid (by rw [List.take_succ_eq_append_getElem hlt1, List.map_append]; rfl)
      have HLN1 : Hid (((x.l.take k1).map cutCe).length = k1) := hid (by rw [List.length_map, List.length_take]; omega)
      go_upto_region 5 with (fail)
      generalize ha0 : Act.mk _ _ = a0
      have oe1 : a0.eval (.tmp 1) = .pointer (some ⟨w.heap.size, 0, none⟩) := by rw [← ha0]; rfl
      have oe3 : a0.eval (.tmp 3) = .slice aol1 ((x.l.take k1).map cutCe).length capl1 := by rw [← ha0]; rfl
      have oe4 : a0.eval (.tmp 4) = .int .i64 ((k1 : Nat) : Int) := by rw [← ha0]; rfl
      have hsz0 : a0.tmps.size = 28 := by rw [← ha0]; rfl
      have HA0 := hid ha0
      clear ha0
      refine wp_region_Q1 28 hsz0 [16, 17, 18, 19, 20, 21, 22, 23, 24, 3] (fun k => (New w1 wl1 k)) (fun k j => (k = 2 ∧ ((New w1 wl1 j)))) (fun _ _ h => h.2) [qi (.slice aol1 ((x.l.take k1).map cutCe).length capl1), qi (.pointer (some ⟨w.heap.size, 3, none⟩)), qi (.slice (some ⟨g1, o1, none⟩) x.l.length cap), qi (.int .i64 ((k1 : Nat) : Int)), qi (.pointer (some ⟨g1, o1 + k1 * 38, none⟩)), qi (.agg cs1.toArray), qv 0, qv 1, qv 2, qv 2] ⟨qi_stable, qi_stable, qi_stable, qi_stable, qi_stable, qi_stable, qv_stable, qv_stable, qv_stable, qv_stable, trivial⟩ [6, 7, 8] ⟨?_, ?_, ?_, ?_, ?_, ?_, ?_, ?_, ?_, ?_, trivial⟩ ?_
      · exact stq (fun E => ex_move rfl ((E.pre 9 3 rfl (by kernel_rfl)).trans oe3))
      · exact stq (fun E => ex_field rfl Try.underlying55 rfl (by kernel_rfl) (E.v oe1))
      · exact stq (fun E => ex_load1 rfl Try.underlying53 rfl (E.d 1) (Cs.lit1 ((HKL1_1.out.mod Cx2.out (fun h => h)).mod E.m (by intro h2; omega)) rfl))
      · exact stq (fun E => ex_move rfl (E.v oe4))
      · exact stq (fun E => ex_idxS (i := k1) (s := 38) rfl Try.underlying53 (by kernel_rfl) (E.d 2) (E.d 3) hlt1)
      · exact stq (fun E => ex_loadA rfl Try.underlying52 rfl (off := o1 + k1 * 38) (cs := cs1) (by rw [HCL1.out]; kernel_rfl) (E.d 4) (fun j u hu => ((HAT1.out.mod E.m (by intro k h1 h2; rcases h2 with ⟨h0, h2⟩ | h2 <;> (first | omega | (have hb := HBT.out k h1; omega))))).2 j u hu))
      · exact stepq_chain rfl
      · exact stepq_chain rfl
      · exact stepq_chain rfl
      · refine stepq_env rfl rfl rfl fun _ _ _ _ _ _ _ _ _ hd _ _ => ?_
        have h8 := hd ⟨8, .data⟩ (by simp) rfl _ rfl
        exact qe_run rfl (wanted_none rfl) (ex_assign rfl rfl) QE.refl h8
      intro u5_0 hr
      have zu5_0 := hr.size
      have Cx3 := hid (hr.new (S := (fun k => (New w1 wl1 k))))
      have Hx4 := hid ((HAL1.out.mod Cx2.out (fun _ _ h => h) (fun _ _ h => h)).mod hr (by intro k h1 h2; omega) (by intro k h1 h2; rcases h1 with h1 | h1 <;> first | omega | (have hb := HBT.out k h1; omega)))
      clear HAL1
      clear hr
      refine QChain.go fun Z act E => ?_
      refine qc_callF (args := #[.agg cs1.toArray]) rfl (wanted_none rfl) rfl Try.func21 (args1 (E.d 5)) (LCert_c _ _ _ _ (HRD1.out.mod Cx3.out (by intro k h1 h2; have hb := HBT.out k h1; omega)) (by intro k h1; have hb := HBT.out k h1; omega)) ?_
      rintro e u5_1a ⟨cs', rfl, qel, hm⟩
      have zu5_1a := hm.size
      refine ⟨_, rfl, hm.mono (fun _ _ h => h.elim), (fun _ => rfl), ?_⟩
      intro u5_1 hr
      have zu5_1 := hr.size
      have Hx5 := hid ((qel.widen (R' := (fun k => (R2 k) ∨ (New u5_0 u5_1a k))) (fun _ h => h)).mod hr (by intro k h1 h2; rcases h1 with h1 | h1 <;> first | omega | (have hb := HBT.out k h1; omega)))
      have hmr := Mod.after hm hr
      have Hx6 := hid (Hx4.out.mod hmr (by intro k h1 h2; omega) (by intro k h1 h2; rcases h1 with h1 | h1 <;> first | omega | (have hb := HBT.out k h1; omega)))
      clear Hx4
      clear hmr
      have Cx7 := hid (Cx3.out.go hm hr)
      clear Cx3 hm hr Z act E qel HRD1
      refine QChain.go fun Z act E => ?_
      refine qc_buildS (e := 52) (cs := cs') (zc := [.int .i64 0, .int .i64 0, .int .u8 0, .int .u8 0, .int .u8 0, .int .u8 0, .int .u8 0, .int .u8 0, .int .u8 0, .int .u8 0, .int .u8 0, .int .u8 0, .int .u8 0, .int .u8 0, .int .u8 0, .int .u8 0, .int .u8 0, .int .u8 0, .int .u8 0, .int .u8 0, .int .u8 0, .int .u8 0, .int .u8 0, .int .u8 0, .int .u8 0, .int .u8 0, .int .u8 0, .int .u8 0, .int .u8 0, .int .u8 0, .int .u8 0, .int .u8 0, .int .u8 0, .int .u8 0, .int .i64 0, .int .i64 0, .int .i64 0, .slice none 0 0]) (sz := 38) rfl (wanted_none rfl) rfl Try.underlying53 (by kernel_rfl) rfl (by decide) (by decide) (chv (v := .agg cs'.toArray) (E.d 6)) (CeR.len Hx5.out) ?_
      intro u5_2a qrow hm
      have zl5_7 := qrow.lt
      have zu5_2a := hm.size
      refine ⟨hm.mono (fun _ _ h => h.elim), (fun _ => rfl), ?_⟩
      intro u5_2 hr
      have zu5_2 := hr.size
      have Hx8 := hid (qrow.mod hr (by intro h2; omega))
      have hmr := Mod.after hm hr
      have Hx9 := hid (Hx6.out.mod hmr (by intro k h1 h2; omega) (by intro k h1 h2; rcases h1 with h1 | h1 <;> first | omega | (have hb := HBT.out k h1; omega)))
      have Hx10 := hid (Hx5.out.mod hmr (by intro k h1 h2; rcases h1 with h1 | h1 <;> first | omega | (have hb := HBT.out k h1; omega)))
      clear Hx6 Hx5
      clear hmr
      have Cx11 := hid (Cx7.out.go hm hr)
      clear Cx7 hm hr Z act E qrow
      refine QChain.go fun Z act E => ?_
      refine qc_appS (A := CeR) (e := 52) rfl (wanted_none rfl) rfl (.agg #[.int .i64 0, .int .i64 0, .int .u8 0, .int .u8 0, .int .u8 0, .int .u8 0, .int .u8 0, .int .u8 0, .int .u8 0, .int .u8 0, .int .u8 0, .int .u8 0, .int .u8 0, .int .u8 0, .int .u8 0, .int .u8 0, .int .u8 0, .int .u8 0, .int .u8 0, .int .u8 0, .int .u8 0, .int .u8 0, .int .u8 0, .int .u8 0, .int .u8 0, .int .u8 0, .int .u8 0, .int .u8 0, .int .u8 0, .int .u8 0, .int .u8 0, .int .u8 0, .int .u8 0, .int .u8 0, .int .i64 0, .int .i64 0, .int .i64 0, .slice none 0 0]) 96 Try.underlying53 info_Ce (by rfl) (of_decide_eq_true (by kernel_rfl)) (E.d 0) (chv (v := .slice (some ⟨u5_1.heap.size, 0, none⟩) 1 1) (E.d 7)) (Hx9.out) (RdS.single (R := (fun k => (R2 k) ∨ (New u5_0 u5_1a k) ∨ (k = u5_1.heap.size))) Hx8.out (Hx10.out.widen (by intro k h1; rcases h1 with h1 | h1 <;> first | omega | exact h1.elim | exact Or.inl h1 | exact Or.inr (Or.inl h1) | exact Or.inr (Or.inr (h1)))) (by first | exact Or.inr rfl | exact Or.inr (Or.inr rfl) | (right; omega))) (by intro k h1 h2; rcases h1 with h1 | h1 | h1 <;> first | omega | (have hb := HBT.out k h1; omega)) (by rw [HLN1.out]; simp only [List.length_cons, List.length_nil]; omega) (by rw [HLN1.out, maxLen_val]; simp only [List.length_cons, List.length_nil]; omega) ?_
      intro ao8 cap8 u5_3a qacc hm
      have zu5_3a := hm.size
      refine ⟨hm.mono (by intro k hk h; omega), (fun _ => rfl), ?_⟩
      intro u5_3 hr
      have zu5_3 := hr.size
      have Hx12 := hid ((qacc.widen (R' := (fun k => (New w1 wl1 k) ∨ (New u5_2 u5_3a k))) (E' := (fun k => (R2 k) ∨ (New w1 wl1 k) ∨ (New u5_0 u5_1a k) ∨ (k = u5_1.heap.size))) (fun _ h => h) (by intro k h1; rcases h1 with (h1 | h1) | (h1 | h1 | h1) <;> first | omega | exact h1.elim | exact Or.inl h1 | exact Or.inr (Or.inl h1) | exact Or.inr (Or.inr (Or.inl h1)) | exact Or.inr (Or.inr (Or.inr (h1))))).mod hr (by intro k h1 h2; omega) (by intro k h1 h2; rcases h1 with h1 | h1 | h1 | h1 <;> first | omega | (have hb := HBT.out k h1; omega)))
      have hmr := hm.two hr
      have Hx13 := hid (Hx10.out.mod hmr (by intro k h1 h2; rcases h1 with h1 | h1 <;> first | omega | (have hb := HBT.out k h1; omega)))
      have Hx14 := hid (Hx8.out.mod hmr (by intro h2; omega))
      clear Hx10 Hx8
      clear hmr
      have Cx15 := hid (Cx11.out.goM hm hr (fun _ _ h => h))
      clear Cx11 hm hr Z act E qacc Hx9
      refine QChain.nil fun vs hl hzz hrows hne => ?_
      obtain ⟨Z, hYZ, hZb, hV⟩ := hzz
      have f0 := fvi hV hl 0
      have f3 := fvi hV hl 3
      have f6 := fvc hV hl 6
      have f7 := fvc hV hl 7
      have f8 := fvc hV hl 8
      have f9 := fvc hV hl 9
      rw [show vs = [gw vs 0, gw vs 1, gw vs 2, gw vs 3, gw vs 4, gw vs 5, gw vs 6, gw vs 7, gw vs 8, gw vs 9] from (gw_eta hl).trans rfl]
      have ha0 := HA0.out
      subst ha0
      clear HA0 hV hYZ hZb hsz0 hrows hne oe1 oe3 oe4
      simp only [putAll, Act.put, List.setIfInBounds_toArray, List.set_cons_zero, List.set_cons_succ, f0, f3, f6, f7, f8, f9]
      clear hl f0 f3 f6 f7 f8 f9
      have hq := Hx12.out
      rw [HE1.out] at hq
      have HQ1 := Lib.hid hq
      clear hq
      go_wp2
      go_roundw
      case rel => exact ⟨k1 + 1, by go_num, by omega, by omega, by omega, (HQ1.out.widen (by intro b h1; omega) (by intro k h1; rcases h1 with h1 | h1 | h1 | h1 <;> first | omega | exact h1.elim | exact Or.inl h1 | exact Or.inr (h1))), ((HKL1_0.out.mod Cx2.out (fun _ _ h => h)).mod Cx15.out (by intro k h1 h2; have hb := HBT.out k h1; omega)), ((HKL1_1.out.mod Cx2.out (fun h => h)).mod Cx15.out (by intro h2; omega)), ((HKL1_2.out.mod Cx2.out (fun h => h)).mod Cx15.out (by intro h2; omega)), ((HML1.out.trans Cx2.out (fun _ _ h => h.elim)).trans Cx15.out (by intro k h1 h2; omega))⟩
      case measure => simp [intOf]; omega
    · skip
      obtain ⟨bA1, hbA1⟩ : ∃ b : Bool, b = decide (((k1 : Nat) : Int) < (x.l.length : Int)) := ⟨_, rfl⟩
      obtain ⟨bB1, hbB1⟩ : ∃ b : Bool, b = decide (((k1 : Nat) : Int) < 3) := ⟨_, rfl⟩
      go_upto_region 3 with (fail)
      generalize ha0 : Act.mk _ _ = a0
      have oe1 : a0.eval (.tmp 1) = .pointer (some ⟨w.heap.size, 0, none⟩) := by rw [← ha0]; rfl
      have oe4 : a0.eval (.tmp 4) = .int .i64 ((k1 : Nat) : Int) := by rw [← ha0]; rfl
      have hsz0 : a0.tmps.size = 28 := by rw [← ha0]; rfl
      have HA0 := hid ha0
      clear ha0
      refine wp_region_Q0 28 hsz0 [5, 6, 7, 8, 9, 10, 11, 12, 13] [qi (.int .i64 ((k1 : Nat) : Int)), qi (.pointer (some ⟨w.heap.size, 3, none⟩)), qi (.slice ao x.l.length cap), qi (.int .i64 x.l.length), qi (.bool bA1), qi (.bool bA1), qc bA1 (qi (.int .i64 ((k1 : Nat) : Int))), qc bA1 (qi (.bool bB1)), qi (.bool (bA1 && bB1))] ⟨qi_stable, qi_stable, qi_stable, qi_stable, qi_stable, qi_stable, (qc_stable qi_stable), (qc_stable qi_stable), qi_stable, trivial⟩ [] ⟨?_, ?_, ?_, ?_, ?_, ?_, ?_, ?_, ?_, trivial⟩ ?_
      · exact stq (fun E => ex_move rfl (E.v oe4))
      · exact stq (fun E => ex_field rfl Try.underlying55 rfl (by kernel_rfl) (E.v oe1))
      · exact stq (fun E => ex_load1 rfl Try.underlying53 rfl (E.d 1) (Cs.lit1 (HKL1_1.out.mod E.m.old (by intro h2; omega)) rfl))
      · exact stq (fun E => ex_lenS rfl (E.d 2) Try.underlying53)
      · exact stq (fun E => ex_binE rfl (E.d 0) (E.d 3) (guard_ints _ _ _ _ _ _) (run_lss_i _ _ _ Try.underlying3) (congrArg Value.bool hbA1.symm))
      · exact stq (fun E => ex_move rfl (E.d 4))
      · refine stepq_env rfl rfl rfl fun _ _ _ _ _ _ _ hout hsz hd _ _ => ?_
        have h5 := hd ⟨5, .guard⟩ (by simp) rfl _ rfl
        refine qe_guard rfl (b := bA1) ((wanted_of rfl rfl (hsz 10 (by decide)) h5).trans (by simp)) rfl (fun hb l' hl' => ?_)
        refine qe_run rfl ((wanted_of rfl rfl (hsz 10 (by decide)) h5).trans (by first | exact hb | simpa using hb)) (ex_move rfl ((hout 4 (by decide)).trans oe4)) QE.refl ?_
        rw [hl']; rfl
      · refine stepq_env rfl rfl rfl fun _ _ _ _ _ _ _ _ hsz hd _ _ => ?_
        have h5 := hd ⟨5, .guard⟩ (by simp) rfl _ rfl
        have h6 := hd ⟨6, .data⟩ (by simp) rfl _ rfl
        refine qe_guard rfl (b := bA1) ((wanted_of rfl rfl (hsz 10 (by decide)) h5).trans (by simp)) rfl (fun hb l' hl' => ?_)
        refine qe_run rfl ((wanted_of rfl rfl (hsz 10 (by decide)) h5).trans (by first | exact hb | simpa using hb)) (ex_binE rfl (h6.1 hb) rfl (guard_ints _ _ _ _ _ _) (run_lss_i _ _ _ Try.underlying3) (congrArg Value.bool hbB1.symm)) QE.refl ?_
        rw [hl']; rfl
      · exact stq (fun E => ex_pickE rfl (E.d 5) rfl rfl (and_val fun hb => (E.d 7).1 hb))
      intro u3_0 hr
      have zu3_0 := hr.size
      have Cx16 := hid (hr.new (S := (fun _ => False)))
      clear hr
      refine QChain.nil fun vs hl hzz hrows hne => ?_
      obtain ⟨Z, hYZ, hZb, hV⟩ := hzz
      have f0 := fvi hV hl 0
      have f3 := fvi hV hl 3
      have f5 := fvi hV hl 5
      have f8 := fvi hV hl 8
      rw [show vs = [gw vs 0, gw vs 1, gw vs 2, gw vs 3, gw vs 4, gw vs 5, gw vs 6, gw vs 7, gw vs 8] from (gw_eta hl).trans rfl]
      have ha0 := HA0.out
      subst ha0
      clear HA0 hV hYZ hZb hsz0 hrows hne oe1 oe4
      simp only [putAll, Act.put, List.setIfInBounds_toArray, List.set_cons_zero, List.set_cons_succ, f0, f3, f5, f8]
      clear hl f0 f3 f5 f8
      rw [show (bA1 && bB1) = false by rw [hbA1, hbB1, Bool.and_eq_false_iff, decide_eq_false_iff_not, decide_eq_false_iff_not]; omega]
      have HTK1 := hid (show x.l.take k1 = x.l.take 3 from take_two (by omega) (by omega))
      go_upto_region 6 with (fail)
      generalize ha0 : Act.mk _ _ = a0
      have oe1 : a0.eval (.tmp 1) = .pointer (some ⟨w.heap.size, 0, none⟩) := by rw [← ha0]; rfl
      have oe3 : a0.eval (.tmp 3) = .slice aol1 ((x.l.take k1).map cutCe).length capl1 := by rw [← ha0]; rfl
      have hsz0 : a0.tmps.size = 28 := by rw [← ha0]; rfl
      have HA0 := hid ha0
      clear ha0
      refine wp_region_Q1 28 hsz0 [25, 26, 30] (fun k => (k = w.heap.size)) (fun k j => (k = 0 ∧ ((j = w.heap.size)))) (fun _ _ h => h.2) [qi (.slice aol1 ((x.l.take k1).map cutCe).length capl1), qi (.pointer (some ⟨w.heap.size, 3, none⟩)), qv 0] ⟨qi_stable, qi_stable, qv_stable, trivial⟩ [2] ⟨?_, ?_, ?_, trivial⟩ ?_
      · exact stq (fun E => ex_move rfl (E.v oe3))
      · exact stq (fun E => ex_field rfl Try.underlying55 rfl (by kernel_rfl) (E.v oe1))
      · exact stepq_chain rfl
      intro u6_0 hr
      have zu6_0 := hr.size
      have Cx17 := hid (hr.new (S := (fun k => (k = w.heap.size))))
      have Hx18 := hid ((HKL1_1.out.mod Cx16.out (fun h => h)).mod hr (by intro h2; omega))
      clear HKL1_1
      clear hr
      refine QChain.go fun Z act E => ?_
      refine qc_store rfl (wanted_none rfl) rfl Hx18.out (off := 3) (vs := [Value.slice aol1 ((x.l.take k1).map cutCe).length capl1]) (by kernel_rfl) (by intro u hu; simp at hu; subst hu; rfl) (by simp) (E.d 1) (by rw [show act.eval ((.tmp 25)) = _ from (E.d 0)]; rfl) ?_
      intro u6_1a qc0 hm
      have qB1 : Cs u6_1a (w.heap.size) #[.int .i64 x.rp, .int .i64 x.ep, .int .u64 (x.fl : Nat), Value.slice aol1 ((x.l.take k1).map cutCe).length capl1, .int .i64 x.sb, .int .i64 x.mr] 55 := by rw [show lay _ 3 _ = #[.int .i64 x.rp, .int .i64 x.ep, .int .u64 (x.fl : Nat), Value.slice aol1 ((x.l.take k1).map cutCe).length capl1, .int .i64 x.sb, .int .i64 x.mr] from rfl] at qc0; exact qc0
      clear qc0
      have zu6_1a := hm.size
      refine ⟨hm.mono (by intro k hk h; omega), (fun _ => rfl), ?_⟩
      intro u6_1 hr
      have zu6_1 := hr.size
      have Hx19 := hid (qB1.mod hr (by intro h2; omega))
      have Cx20 := hid (Cx17.out.goM hm hr (fun _ _ h => h))
      clear Cx17 hm hr Z act E qB1 Hx18
      refine QChain.nil fun vs hl hzz hrows hne => ?_
      obtain ⟨Z, hYZ, hZb, hV⟩ := hzz
      have f0 := fvi hV hl 0
      rw [show vs = [gw vs 0, gw vs 1, gw vs 2] from (gw_eta hl).trans rfl]
      have ha0 := HA0.out
      subst ha0
      clear HA0 hV hYZ hZb hsz0 hrows hne oe1 oe3
      simp only [putAll, Act.put, List.setIfInBounds_toArray, List.set_cons_zero, List.set_cons_succ, List.set_nil, f0]
      clear hl f0
      go_upto_region 7 with (fail)
      generalize ha0 : Act.mk _ _ = a0
      have oe1 : a0.eval (.tmp 1) = .pointer (some ⟨w.heap.size, 0, none⟩) := by rw [← ha0]; rfl
      have oe2 : a0.eval (.tmp 2) = .pointer (some ⟨w.heap.size + 1, 0, none⟩) := by rw [← ha0]; rfl
      have hsz0 : a0.tmps.size = 28 := by rw [← ha0]; rfl
      have HA0 := hid ha0
      clear ha0
      refine wp_region_Q1 28 hsz0 [27, 29] (fun k => (k = w.heap.size + 1)) (fun k j => (k = 0 ∧ ((j = w.heap.size + 1)))) (fun _ _ h => h.2) [qi (.agg #[.int .i64 x.rp, .int .i64 x.ep, .int .u64 (x.fl : Nat), Value.slice aol1 ((x.l.take k1).map cutCe).length capl1, .int .i64 x.sb, .int .i64 x.mr]), qv 0] ⟨qi_stable, qv_stable, trivial⟩ [1] ⟨?_, ?_, trivial⟩ ?_
      · exact stq (fun E => ex_loadA rfl Try.underlying55 rfl (off := 0) (cs := [.int .i64 x.rp, .int .i64 x.ep, .int .u64 (x.fl : Nat), Value.slice aol1 ((x.l.take k1).map cutCe).length capl1, .int .i64 x.sb, .int .i64 x.mr]) (by kernel_rfl) (E.v oe1) (Cs.whole (Hx19.out.mod E.m (by intro h2; omega))))
      · exact stepq_chain rfl
      intro u7_0 hr
      have zu7_0 := hr.size
      have Cx21 := hid (hr.new (S := (fun k => (k = w.heap.size + 1))))
      have Hx22 := hid (((HKL1_2.out.mod Cx16.out (fun h => h)).mod Cx20.out (by intro h2; omega)).mod hr (by intro h2; omega))
      clear HKL1_2
      clear hr
      refine QChain.go fun Z act E => ?_
      refine qc_store rfl (wanted_none rfl) rfl Hx22.out (off := 0) (vs := [.int .i64 x.rp, .int .i64 x.ep, .int .u64 (x.fl : Nat), Value.slice aol1 ((x.l.take k1).map cutCe).length capl1, .int .i64 x.sb, .int .i64 x.mr]) (by kernel_rfl) (by intro u hu; simp at hu; rcases hu with rfl | rfl | rfl | rfl | rfl | rfl <;> rfl) (by simp) (E.v oe2) (by rw [show act.eval ((.tmp 27)) = _ from (E.d 0)]; rfl) ?_
      intro u7_1a qc0 hm
      have qB2 : Cs u7_1a (w.heap.size + 1) #[.int .i64 x.rp, .int .i64 x.ep, .int .u64 (x.fl : Nat), Value.slice aol1 ((x.l.take k1).map cutCe).length capl1, .int .i64 x.sb, .int .i64 x.mr] 55 := by rw [show lay _ 0 _ = #[.int .i64 x.rp, .int .i64 x.ep, .int .u64 (x.fl : Nat), Value.slice aol1 ((x.l.take k1).map cutCe).length capl1, .int .i64 x.sb, .int .i64 x.mr] from rfl] at qc0; exact qc0
      clear qc0
      have zu7_1a := hm.size
      refine ⟨hm.mono (by intro k hk h; omega), (fun _ => rfl), ?_⟩
      intro u7_1 hr
      have zu7_1 := hr.size
      have Hx23 := hid (qB2.mod hr (by intro h2; omega))
      have Cx24 := hid (Cx21.out.goM hm hr (fun _ _ h => h))
      clear Cx21 hm hr Z act E qB2 Hx22
      refine QChain.nil fun vs hl hzz hrows hne => ?_
      obtain ⟨Z, hYZ, hZb, hV⟩ := hzz
      rw [show vs = [gw vs 0, gw vs 1] from (gw_eta hl).trans rfl]
      have ha0 := HA0.out
      subst ha0
      clear HA0 hV hYZ hZb hsz0 hrows hne oe1 oe2
      simp only [putAll, Act.put, List.setIfInBounds_toArray, List.set_cons_zero, List.set_cons_succ, List.set_nil]
      clear hl
      go_wp2
      have hq := (((HAL1.out.mod Cx16.out (fun _ _ h => h) (fun _ _ h => h)).mod Cx20.out (by intro k h1 h2; omega) (by intro k h1 h2; rcases h1 with h1 | h1 <;> first | omega | (have hb := HBT.out k h1; omega))).mod Cx24.out (by intro k h1 h2; omega) (by intro k h1 h2; rcases h1 with h1 | h1 <;> first | omega | (have hb := HBT.out k h1; omega)))
      refine bodyPost_ret (results_cellA rfl _ _ (w.heap.size + 1) ([.int .i64 x.rp, .int .i64 x.ep, .int .u64 (x.fl : Nat), Value.slice aol1 ((x.l.take k1).map cutCe).length capl1, .int .i64 x.sb, .int .i64 x.mr]) rfl (fun k u hu => by rw [Hx23.out.cell]; simpa using hu) Try.underlying55 rfl (by kernel_rfl)) rfl ⟨_, rfl, ⟨_, rfl, HOK.out, ?_⟩, (((HML1.out.trans Cx16.out (fun _ _ h => h.elim)).trans Cx20.out (by intro k h1 h2; omega)).trans Cx24.out (by intro k h1 h2; omega))⟩
      rw [show (cutPm x).l = (x.l.take k1).map cutCe from congrArg (List.map cutCe) HTK1.out.symm]
      refine hq.rd.widen ?_
      intro k h
      (try dsimp only at h ⊢)
      rcases h with h | h | h
      · right; omega
      · exact Or.inl h
      · right; omega
end Go.Proofs.Ytknpapcfhnhheaa
