/- Texts that are built one behind the other: XSha5, XWc, XCm1, XCm2, XSet0, XTy, XCut1, XCut2, XCut3, XNi. No condition. -/
import Derived.Test.YtknpapcfhnhheaaMh2
import Derived.Deep.Cut
set_option maxRecDepth 100000
set_option linter.unusedVariables false
/- sha.Sum. -/
namespace Go.Proofs.Ytknpapcfhnhheaa
open Go Go.RowKit Go.Gv

def padZ (n : Nat) : Nat := (119 - n % 64) % 64
def padded (bs : List Int) (j : Nat) : List Int := bs ++ [128] ++ List.replicate j 0
def lenB (n i : Nat) : Int := ((n : Int) * 8) / 2 ^ (56 - 8 * i) % 256
def fullTo (bs : List Int) (i : Nat) : List Int := padded bs (padZ bs.length) ++ (List.range i).map (lenB bs.length)
def fullB (bs : List Int) : List Int := fullTo bs 8
def blocksTo (fb : List Int) (t : Nat) : List Int := (List.range t).foldl (fun h j => mixF h K256 (fb.drop (64 * j))) H256
def outB (h : List Int) (q : Nat) : Int := (h.getD (q / 4) 0) / 2 ^ (24 - 8 * (q % 4)) % 256
def shaF (bs : List Int) : List Int := (List.range 32).map (outB (blocksTo (fullB bs) ((fullB bs).length / 64)))
theorem padded_len (bs : List Int) (j : Nat) : (padded bs j).length = bs.length + 1 + j := by simp [padded]; omega
theorem padded_succ (bs : List Int) (j : Nat) : padded bs j ++ [0] = padded bs (j + 1) := by
  unfold padded
  rw [List.append_assoc, List.replicate_succ']
theorem pad_iff {n j : Nat} (h : j ≤ padZ n) : (n + 1 + j) % 64 = 56 ↔ j = padZ n := by unfold padZ at *; omega
theorem fullTo_len (bs : List Int) (i : Nat) : (fullTo bs i).length = bs.length + 1 + padZ bs.length + i := by unfold fullTo; rw [List.length_append, padded_len]; simp
theorem fullTo_succ (bs : List Int) (i : Nat) : fullTo bs i ++ [lenB bs.length i] = fullTo bs (i + 1) := by
  unfold fullTo
  rw [List.append_assoc, List.range_succ, List.map_append]
  rfl
theorem full_div (bs : List Int) : (fullB bs).length % 64 = 0 := by unfold fullB; rw [fullTo_len]; unfold padZ; omega
theorem lenB_byte (n i : Nat) : 0 ≤ lenB n i ∧ lenB n i < 256 := by unfold lenB; omega
theorem blocks_succ (fb : List Int) (t : Nat) : blocksTo fb (t + 1) = mixF (blocksTo fb t) K256 (fb.drop (64 * t)) := by unfold blocksTo; rw [List.range_succ, List.foldl_append]; rfl
theorem mixF_len (h k b : List Int) (hl : h.length = 8) : (mixF h k b).length = 8 := by unfold mixF; rw [addTo_len, hl]
theorem blocks_len (fb : List Int) (t : Nat) : (blocksTo fb t).length = 8 := by
  induction t with
  | zero => rfl
  | succ t ih => rw [blocks_succ, mixF_len _ _ _ ih]
theorem shaF_len (bs : List Int) : (shaF bs).length = 32 := by simp [shaF]
theorem Cs_new1 (w : World) (o : Obj) (c : Array Value) (e : TypeId) : Cs ((w.alloc o).alloc (.cells c e)) (w.heap.size + 1) c e := by
  have := Cs.new (w.alloc o) c e
  rwa [show (w.alloc o).heap.size = w.heap.size + 1 by simp] at this
def lenOf : Value → Nat
  | .slice _ n _ => n
  | _ => 0
def outTo (h : List Int) (q : Nat) : List Int := (List.range q).map (outB h) ++ List.replicate (32 - q) 0
theorem outTo_len (h : List Int) (q : Nat) (hq : q ≤ 32) : (outTo h q).length = 32 := by simp [outTo]; omega
theorem outTo_succ (h : List Int) (q : Nat) (hq : q < 32) : (outTo h q).set q (outB h q) = outTo h (q + 1) := by
  unfold outTo
  rw [List.set_append_right _ _ (by simp), List.length_map, List.length_range, Nat.sub_self, List.range_succ, List.map_append, List.append_assoc]
  congr 1
  obtain ⟨k, hk⟩ : ∃ k, 32 - q = k + 1 := ⟨31 - q, by omega⟩
  rw [hk, show 32 - (q + 1) = k by omega, List.replicate_succ]
  rfl
theorem outB_at (h : List Int) (i j : Nat) (hj : j < 4) : outB h (4 * i + j) = (h.getD i 0) / 2 ^ (24 - 8 * j) % 256 := by
  unfold outB
  rw [show (4 * i + j) / 4 = i by omega, show (4 * i + j) % 4 = j by omega]
theorem Cs_setB {w : World} {g : Nat} {bs : List Int} {e : TypeId} (h : Cs w g (bs.map bv).toArray e) (j : Nat) (x : Int) : Cs (w.setCell ⟨g, j, none⟩ (bv x)) g ((bs.set j x).map bv).toArray e := by
  have := h.set j (bv x)
  simpa [List.map_set] using this
structure SumO (w0 : World) (h : List Int) (w : World) : Prop where
  k2 : Cs w w0.heap.size ((List.replicate 32 0).map bv).toArray 25
  k3 : Ws 170 w (w0.heap.size + 1) h
  m : Mod (fun _ => False) w0 w
theorem SumO.mod {S : Nat → Prop} {w0 w w' : World} {h : List Int} (o : SumO w0 h w) (hm : Mod S w w') (hS : ∀ k, S k → w0.heap.size + 2 ≤ k) : SumO w0 h w' :=
  ⟨o.k2.mod hm (fun q => by have := hS _ q; omega), o.k3.mod hm (fun q => by have := hS _ q; omega), o.m.trans hm (fun k hk q => by have := hS _ q; omega)⟩
theorem SumO.put {w0 w w' : World} {h h' : List Int} (o : SumO w0 h w) (hm : Mod (fun k => k = w0.heap.size + 1) w w') (hs : Ws 170 w' (w0.heap.size + 1) h') : SumO w0 h' w' :=
  ⟨o.k2.mod hm (by omega), hs, o.m.trans hm (fun k hk q => by omega)⟩
/-- the padded bytes, in blocks of their own -/
def FulO (w0 : World) (w : World) (v : Value) (bs : List Int) : Prop := OwR (fun k => w0.heap.size + 2 ≤ k) bs.length w v bs
theorem FulO.mod {S : Nat → Prop} {w0 w w' : World} {v : Value} {bs : List Int} (o : FulO w0 w v bs) (hm : Mod S w w') (hS : ∀ k, S k → k < w0.heap.size + 2) : FulO w0 w' v bs := OwR.mod o hm (fun k h1 h2 => by have := hS k h2; omega)

set_option maxHeartbeats 4000000 in
theorem Sum_any (v : Value) (bs : List Int) (w : World) (h : RdB w v bs) (hlen : bs.length ≤ 900000) :
    Calls Try.prog 96 #[v] w fun e w' => e = .returned (hv (shaF bs)) ∧ Mod (fun _ => False) w w' := by
  have hbl := h.block_lt
  have HR := Lib.hid (show RdR (fun k => k < w.heap.size) bs.length w v bs from ⟨h, hbl, Nat.le_refl _⟩)
  obtain ⟨ao, cap, rfl, -, -⟩ := h.shape
  clear h hbl
  go_enter Try.func96, Try.ntmps96
  go_wp2_with ((with_reducible show wpList _ _ _ (Oper.mk none (Op.store 170 (.tmp 3) (.tmp 12)) _ _ _ _ :: _) _ _); go_must (refine wpList_storeA rfl 170 (.tmp 3) (.tmp 12) rfl (Cs_new1 _ _ _ _) (off := 0) (vs := H256.map wv) size_a8 (wv_one _) (by decide) rfl rfl ?_))
  intro w1 hc1 hm1
  rw [lay_whole _ _ (by decide)] at hc1
  have hO : SumO w H256 w1 := by
    refine ⟨?_, ?_, (((Mod.refl _ _).alloc _).alloc _).trans hm1 (by intro k h1 h2; (try dsimp only at h2); omega)⟩
    · refine Cs.mod (((Cs.new w _ _).alloc _)) hm1 (by simp)
    · exact hc1
  have KO := Lib.hid hO
  have z1 : w.heap.size + 2 ≤ w1.heap.size := by have := hO.k3.lt; omega
  clear hO hc1 hm1
  have HR1 := Lib.hid (HR.out.mod KO.out.m (fun _ _ h => h))
  go_wp2_with (at_builtin; go_must (refine wpList_appR rfl (.const (.slice none 0 0)) (.tmp 13) rfl rfl (R := fun k => w.heap.size + 2 ≤ k) (N := 0) (bs := []) ⟨OwnB.nil _, (fun g hg => by cases hg), Nat.le_refl _⟩ rfl HR1.out (by omega) ?_))
  intro ao2 cap2 w2 hq2 hm2
  have KO2 := Lib.hid (KO.out.mod hm2 (fun k hk => hk))
  have z2 := hm2.size
  have HQ2 := Lib.hid (show FulO w w2 (.slice ao2 bs.length cap2) bs from ⟨hq2.1, fun g hg => by have := hq2.2.1 g hg; unfold New at this; omega, Nat.le_refl _⟩)
  clear hq2 hm2 KO HR1
  go_wp2_with (at_builtin; go_must (refine wpList_appR1 rfl (.tmp 14) (.tmp 15) rfl rfl HQ2.out rfl (by omega) (by omega) (by omega) ?_))
  intro ao3 cap3 w3 hq3 hm3
  have KO3 := Lib.hid (KO2.out.mod hm3 (fun k hk => hk))
  have z3 := hm3.size
  have HQ3 := Lib.hid (show FulO w w3 (.slice ao3 (bs.length + 1) cap3) (padded bs 0) from ⟨by have := hq3.1; simpa [padded] using this, fun g hg => by have := hq3.2.1 g hg; unfold New at this; omega, by rw [padded_len]; omega⟩)
  clear hq3 hm3 KO2 HQ2
  have hz : padZ bs.length ≤ 63 := by unfold padZ; omega
  go_wp2
  go_loopw [4] (fun t4 wr => ∃ (j : Nat) (ao : Option Addr) (cap : Nat), t4 = .slice ao (bs.length + 1 + j) cap ∧ j ≤ padZ bs.length ∧ FulO w wr (.slice ao (bs.length + 1 + j) cap) (padded bs j) ∧ SumO w H256 wr) (fun t4 _ => bs.length + 1 + padZ bs.length - lenOf t4)
  case atStart => exact ⟨0, ao3, cap3, rfl, by omega, HQ3.out, KO3.out⟩
  case round =>
    obtain ⟨j, ao4, cap4, rfl, hj, hF, hO⟩ := hrel
    have hiff := pad_iff hj
    have KF := Lib.hid hF
    have KO := Lib.hid hO
    have zr := hO.k3.lt
    clear hF hO HQ3 KO3
    obtain ⟨n, hn⟩ : ∃ n, n = bs.length + 1 + j := ⟨_, rfl⟩
    rw [← hn] at KF hiff
    rw [← hn]
    have HN := Lib.hid hn
    have hnb : n ≤ 950000 := by omega
    clear hn
    by_cases hlt : j < padZ bs.length
    · have h56 : ¬ ((n : Int) % 64 = 56) := by omega
      clear hiff
      go_wp2_with (at_builtin; go_must (refine wpList_appR1 rfl (.tmp 21) (.tmp 22) rfl rfl KF.out rfl (by omega) (by omega) (by rw [padded_len]; omega) ?_))
      intro ao5 cap5 w5 hq5 hm5
      have KO5 := Lib.hid (KO.out.mod hm5 (fun k hk => hk))
      have z5 := hm5.size
      rw [padded_succ] at hq5
      have hl5 : (padded bs j).length = n := by rw [padded_len, HN.out]
      rw [hl5] at hq5 ⊢
      have hl6 := padded_len bs (j + 1)
      have HQ5 := Lib.hid (show FulO w w5 (.slice ao5 (n + 1) cap5) (padded bs (j + 1)) from ⟨hq5.1, fun g hg => by have := hq5.2.1 g hg; unfold New at this; omega, Nat.le_refl _⟩)
      clear hq5 hm5 hl5 hl6
      go_wp2
      go_roundw
      case rel => exact ⟨j + 1, ao5, cap5, by rw [HN.out, ← Nat.add_assoc], by omega, by have := HQ5.out; rw [HN.out, Nat.add_assoc] at this; exact this, KO5.out⟩
      case measure => have := HN.out; simp [lenOf]; omega
    · obtain rfl : j = padZ bs.length := by omega
      have h56 : (n : Int) % 64 = 56 := by omega
      have hl4 : (padded bs (padZ bs.length)).length = n := by rw [padded_len, HN.out]
      clear hiff
      go_wp2
      obtain ⟨x, hx⟩ : ∃ x : Int, x = (bs.length : Int) * 8 := ⟨_, rfl⟩
      rw [← hx]
      have HX := Lib.hid hx
      have HL4 := Lib.hid hl4
      clear hx hl4 h56
      have hfz : FulO w wr (.slice ao4 n cap4) (fullTo bs 0) := by have := KF.out; rw [show fullTo bs 0 = padded bs (padZ bs.length) by simp [fullTo]]; exact this
      have HF0 := Lib.hid hfz
      clear hfz KF
      go_loopw [4, 28] (fun t4 t28 wr => ∃ (i : Nat) (ao : Option Addr) (cap : Nat), t28 = .int .i64 i ∧ i ≤ 8 ∧ t4 = .slice ao (n + i) cap ∧ FulO w wr (.slice ao (n + i) cap) (fullTo bs i) ∧ SumO w H256 wr) (fun _ t28 _ => 8 - (intOf t28).toNat)
      case atStart => exact ⟨0, ao4, cap4, rfl, by omega, rfl, HF0.out, KO.out⟩
      case round =>
        obtain ⟨wi, rfl⟩ : ∃ x, x = wr := ⟨_, rfl⟩
        obtain ⟨i, ao6, cap6, rfl, hi, rfl, hF, hO⟩ := hrel
        clear KO HF0
        have KF := Lib.hid hF
        have KO := Lib.hid hO
        have zr2 := hO.k3.lt
        clear hF hO
        have hfl := fullTo_len bs i
        have hfl2 : (fullTo bs i).length = n + i := by rw [hfl, HN.out]
        have HFL := Lib.hid hfl2
        clear hfl hfl2
        by_cases hlt2 : i < 8
        · have hlb := lenB_byte bs.length i
          have hlv : lenB bs.length i = x / 2 ^ (56 - 8 * i) % 256 := by rw [HX.out]; rfl
          obtain ⟨y, hy⟩ : ∃ y, y = lenB bs.length i := ⟨_, rfl⟩
          rw [← hy] at hlb hlv
          have HY := Lib.hid hy
          have HV := Lib.hid hlv
          clear hy hlv
          have HI := Lib.hid (show i < 8 from hlt2)
          match i, hlt2 with
          | 0, _ =>
            have hv : y = x / 72057594037927936 % 256 := by rw [HV.out]; simp
            have HVV := Lib.hid hv
            rw [hv] at hlb
            clear hv
            go_wp2_with (at_builtin; go_must (refine wpList_appR1 rfl (.tmp 31) (.tmp 38) rfl rfl KF.out rfl hlb.1 hlb.2 (by rw [HFL.out]; omega) ?_))
            intro ao7 cap7 w7 hq7 hm7
            have KO7 := Lib.hid (KO.out.mod hm7 (fun k hk => hk))
            have z7 := hm7.size
            rw [← HVV.out, HY.out, fullTo_succ, HFL.out] at hq7
            rw [HFL.out]
            have hl7 := fullTo_len bs (0 + 1)
            have hl8 := HN.out
            have HQ7 := Lib.hid (show FulO w w7 (.slice ao7 (n + 0 + 1) cap7) (fullTo bs (0 + 1)) from ⟨hq7.1, fun g hg => by have := hq7.2.1 g hg; unfold New at this; omega, Nat.le_refl _⟩)
            clear hq7 hm7 hl7 hl8 hlb
            go_wp2
            go_roundw
            case rel => exact ⟨0 + 1, ao7, cap7, by go_num, by omega, rfl, HQ7.out, KO7.out⟩
            case measure => first | (simp [intOf]; done) | (simp [intOf]; omega)
          | 1, _ =>
            have hv : y = x / 281474976710656 % 256 := by rw [HV.out]; simp
            have HVV := Lib.hid hv
            rw [hv] at hlb
            clear hv
            go_wp2_with (at_builtin; go_must (refine wpList_appR1 rfl (.tmp 31) (.tmp 38) rfl rfl KF.out rfl hlb.1 hlb.2 (by rw [HFL.out]; omega) ?_))
            intro ao7 cap7 w7 hq7 hm7
            have KO7 := Lib.hid (KO.out.mod hm7 (fun k hk => hk))
            have z7 := hm7.size
            rw [← HVV.out, HY.out, fullTo_succ, HFL.out] at hq7
            rw [HFL.out]
            have hl7 := fullTo_len bs (1 + 1)
            have hl8 := HN.out
            have HQ7 := Lib.hid (show FulO w w7 (.slice ao7 (n + 1 + 1) cap7) (fullTo bs (1 + 1)) from ⟨hq7.1, fun g hg => by have := hq7.2.1 g hg; unfold New at this; omega, Nat.le_refl _⟩)
            clear hq7 hm7 hl7 hl8 hlb
            go_wp2
            go_roundw
            case rel => exact ⟨1 + 1, ao7, cap7, by go_num, by omega, rfl, HQ7.out, KO7.out⟩
            case measure => first | (simp [intOf]; done) | (simp [intOf]; omega)
          | 2, _ =>
            have hv : y = x / 1099511627776 % 256 := by rw [HV.out]; simp
            have HVV := Lib.hid hv
            rw [hv] at hlb
            clear hv
            go_wp2_with (at_builtin; go_must (refine wpList_appR1 rfl (.tmp 31) (.tmp 38) rfl rfl KF.out rfl hlb.1 hlb.2 (by rw [HFL.out]; omega) ?_))
            intro ao7 cap7 w7 hq7 hm7
            have KO7 := Lib.hid (KO.out.mod hm7 (fun k hk => hk))
            have z7 := hm7.size
            rw [← HVV.out, HY.out, fullTo_succ, HFL.out] at hq7
            rw [HFL.out]
            have hl7 := fullTo_len bs (2 + 1)
            have hl8 := HN.out
            have HQ7 := Lib.hid (show FulO w w7 (.slice ao7 (n + 2 + 1) cap7) (fullTo bs (2 + 1)) from ⟨hq7.1, fun g hg => by have := hq7.2.1 g hg; unfold New at this; omega, Nat.le_refl _⟩)
            clear hq7 hm7 hl7 hl8 hlb
            go_wp2
            go_roundw
            case rel => exact ⟨2 + 1, ao7, cap7, by go_num, by omega, rfl, HQ7.out, KO7.out⟩
            case measure => first | (simp [intOf]; done) | (simp [intOf]; omega)
          | 3, _ =>
            have hv : y = x / 4294967296 % 256 := by rw [HV.out]; simp
            have HVV := Lib.hid hv
            rw [hv] at hlb
            clear hv
            go_wp2_with (at_builtin; go_must (refine wpList_appR1 rfl (.tmp 31) (.tmp 38) rfl rfl KF.out rfl hlb.1 hlb.2 (by rw [HFL.out]; omega) ?_))
            intro ao7 cap7 w7 hq7 hm7
            have KO7 := Lib.hid (KO.out.mod hm7 (fun k hk => hk))
            have z7 := hm7.size
            rw [← HVV.out, HY.out, fullTo_succ, HFL.out] at hq7
            rw [HFL.out]
            have hl7 := fullTo_len bs (3 + 1)
            have hl8 := HN.out
            have HQ7 := Lib.hid (show FulO w w7 (.slice ao7 (n + 3 + 1) cap7) (fullTo bs (3 + 1)) from ⟨hq7.1, fun g hg => by have := hq7.2.1 g hg; unfold New at this; omega, Nat.le_refl _⟩)
            clear hq7 hm7 hl7 hl8 hlb
            go_wp2
            go_roundw
            case rel => exact ⟨3 + 1, ao7, cap7, by go_num, by omega, rfl, HQ7.out, KO7.out⟩
            case measure => first | (simp [intOf]; done) | (simp [intOf]; omega)
          | 4, _ =>
            have hv : y = x / 16777216 % 256 := by rw [HV.out]; simp
            have HVV := Lib.hid hv
            rw [hv] at hlb
            clear hv
            go_wp2_with (at_builtin; go_must (refine wpList_appR1 rfl (.tmp 31) (.tmp 38) rfl rfl KF.out rfl hlb.1 hlb.2 (by rw [HFL.out]; omega) ?_))
            intro ao7 cap7 w7 hq7 hm7
            have KO7 := Lib.hid (KO.out.mod hm7 (fun k hk => hk))
            have z7 := hm7.size
            rw [← HVV.out, HY.out, fullTo_succ, HFL.out] at hq7
            rw [HFL.out]
            have hl7 := fullTo_len bs (4 + 1)
            have hl8 := HN.out
            have HQ7 := Lib.hid (show FulO w w7 (.slice ao7 (n + 4 + 1) cap7) (fullTo bs (4 + 1)) from ⟨hq7.1, fun g hg => by have := hq7.2.1 g hg; unfold New at this; omega, Nat.le_refl _⟩)
            clear hq7 hm7 hl7 hl8 hlb
            go_wp2
            go_roundw
            case rel => exact ⟨4 + 1, ao7, cap7, by go_num, by omega, rfl, HQ7.out, KO7.out⟩
            case measure => first | (simp [intOf]; done) | (simp [intOf]; omega)
          | 5, _ =>
            have hv : y = x / 65536 % 256 := by rw [HV.out]; simp
            have HVV := Lib.hid hv
            rw [hv] at hlb
            clear hv
            go_wp2_with (at_builtin; go_must (refine wpList_appR1 rfl (.tmp 31) (.tmp 38) rfl rfl KF.out rfl hlb.1 hlb.2 (by rw [HFL.out]; omega) ?_))
            intro ao7 cap7 w7 hq7 hm7
            have KO7 := Lib.hid (KO.out.mod hm7 (fun k hk => hk))
            have z7 := hm7.size
            rw [← HVV.out, HY.out, fullTo_succ, HFL.out] at hq7
            rw [HFL.out]
            have hl7 := fullTo_len bs (5 + 1)
            have hl8 := HN.out
            have HQ7 := Lib.hid (show FulO w w7 (.slice ao7 (n + 5 + 1) cap7) (fullTo bs (5 + 1)) from ⟨hq7.1, fun g hg => by have := hq7.2.1 g hg; unfold New at this; omega, Nat.le_refl _⟩)
            clear hq7 hm7 hl7 hl8 hlb
            go_wp2
            go_roundw
            case rel => exact ⟨5 + 1, ao7, cap7, by go_num, by omega, rfl, HQ7.out, KO7.out⟩
            case measure => first | (simp [intOf]; done) | (simp [intOf]; omega)
          | 6, _ =>
            have hv : y = x / 256 % 256 := by rw [HV.out]; simp
            have HVV := Lib.hid hv
            rw [hv] at hlb
            clear hv
            go_wp2_with (at_builtin; go_must (refine wpList_appR1 rfl (.tmp 31) (.tmp 38) rfl rfl KF.out rfl hlb.1 hlb.2 (by rw [HFL.out]; omega) ?_))
            intro ao7 cap7 w7 hq7 hm7
            have KO7 := Lib.hid (KO.out.mod hm7 (fun k hk => hk))
            have z7 := hm7.size
            rw [← HVV.out, HY.out, fullTo_succ, HFL.out] at hq7
            rw [HFL.out]
            have hl7 := fullTo_len bs (6 + 1)
            have hl8 := HN.out
            have HQ7 := Lib.hid (show FulO w w7 (.slice ao7 (n + 6 + 1) cap7) (fullTo bs (6 + 1)) from ⟨hq7.1, fun g hg => by have := hq7.2.1 g hg; unfold New at this; omega, Nat.le_refl _⟩)
            clear hq7 hm7 hl7 hl8 hlb
            go_wp2
            go_roundw
            case rel => exact ⟨6 + 1, ao7, cap7, by go_num, by omega, rfl, HQ7.out, KO7.out⟩
            case measure => first | (simp [intOf]; done) | (simp [intOf]; omega)
          | 7, _ =>
            have hv : y = x % 256 := by rw [HV.out]; simp
            have HVV := Lib.hid hv
            rw [hv] at hlb
            clear hv
            go_wp2_with (at_builtin; go_must (refine wpList_appR1 rfl (.tmp 31) (.tmp 38) rfl rfl KF.out rfl hlb.1 hlb.2 (by rw [HFL.out]; omega) ?_))
            intro ao7 cap7 w7 hq7 hm7
            have KO7 := Lib.hid (KO.out.mod hm7 (fun k hk => hk))
            have z7 := hm7.size
            rw [← HVV.out, HY.out, fullTo_succ, HFL.out] at hq7
            rw [HFL.out]
            have hl7 := fullTo_len bs (7 + 1)
            have hl8 := HN.out
            have HQ7 := Lib.hid (show FulO w w7 (.slice ao7 (n + 7 + 1) cap7) (fullTo bs (7 + 1)) from ⟨hq7.1, fun g hg => by have := hq7.2.1 g hg; unfold New at this; omega, Nat.le_refl _⟩)
            clear hq7 hm7 hl7 hl8 hlb
            go_wp2
            go_roundw
            case rel => exact ⟨7 + 1, ao7, cap7, by go_num, by omega, rfl, HQ7.out, KO7.out⟩
            case measure => first | (simp [intOf]; done) | (simp [intOf]; omega)
        · obtain rfl : i = 8 := by omega
          obtain ⟨fb, hfb⟩ : ∃ fb, fb = fullB bs := ⟨_, rfl⟩
          have hL : fb.length = n + 8 := by rw [hfb]; exact HFL.out
          have hdiv : fb.length % 64 = 0 := by rw [hfb]; exact full_div bs
          have hFF : FulO w wi (.slice ao6 (n + 8) cap6) fb := by rw [hfb]; exact KF.out
          have HFB := Lib.hid hfb
          have HFF := Lib.hid hFF
          have HDIV := Lib.hid hdiv
          have HL := Lib.hid hL
          clear hfb hFF hL hdiv KF HFL
          rw [show ((8 : Nat) : Int) = 8 from rfl]
          go_wp2_with fail
          refine (rounds_any _).mono ?_
          rintro e w8 ⟨rfl, hm8⟩
          have z8 := hm8.size
          have KO8 := Lib.hid (KO.out.mod hm8 (fun k h => h.elim))
          have HF8 := HFF.out.rd.mod hm8 (fun k _ h => h.elim)
          have HF9 := Lib.hid (show RdR (fun k => w.heap.size + 2 ≤ k ∧ k < w8.heap.size) fb.length w8 (.slice ao6 (n + 8) cap6) fb from ⟨HF8.1, fun h0 g hg => ⟨HF8.2.1 h0 g hg, HF8.1.block_lt h0 g hg⟩, Nat.le_refl _⟩)
          have zr8 := KO8.out.k3.lt
          clear hm8 HF8 KO HFF
          have HKL := Lib.hid (show 0 + (K256.map wv).length ≤ 64 by rw [List.length_map, K256_len]; exact Nat.le_refl _)
          have HKS := Lib.hid (show (Try.prog.info? 171).map (·.size) = some (K256.map wv).length by rw [List.length_map, K256_len]; exact size_a64)
          go_wp2_with ((with_reducible show wpList _ _ _ (Oper.mk none (Op.store 171 (.tmp 7) (.tmp 41)) _ _ _ _ :: _) _ _); go_must (refine wpList_storeA rfl 171 (.tmp 7) (.tmp 41) rfl (Cs.new _ _ _) (off := 0) (vs := K256.map wv) HKS.out (wv_one _) HKL.out rfl rfl ?_))
          intro w9 hc9 hm9
          rw [lay_whole _ _ (by rw [List.length_map, K256_len]; rfl)] at hc9
          have hm9' : Mod (fun _ => False) w8 w9 := ((Mod.refl _ _).alloc _).trans hm9 (by intro k h1 h2; (try dsimp only at h2); omega)
          have z9 := hm9'.size
          have zg := Cs.lt hc9
          have KO9 := Lib.hid (KO8.out.mod hm9' (fun k h => h.elim))
          have KK := Lib.hid (show Ws 171 w9 w8.heap.size K256 from hc9)
          have HF10 := Lib.hid (HF9.out.mod hm9' (fun _ _ h => h))
          clear hc9 hm9 hm9' KO8 HF9 HKL
          obtain ⟨g7, hg7⟩ : ∃ g, g = w8.heap.size := ⟨_, rfl⟩
          rw [← hg7] at KK HF10 zg
          rw [← hg7]
          have hg72 : w.heap.size + 2 ≤ g7 := by omega
          clear hg7 z8 z9 zr8
          have hn8 : n + 8 ≤ 960000 := by omega
          go_wp2
          go_loopw [4] (fun t4 wr => ∃ (t m : Nat) (ao : Option Addr) (cap : Nat), t4 = .slice ao m cap ∧ m + 64 * t = n + 8 ∧ RdR (fun k => w.heap.size + 2 ≤ k ∧ k < g7) fb.length wr (.slice ao m cap) (fb.drop (64 * t)) ∧ SumO w (blocksTo fb t) wr ∧ Ws 171 wr g7 K256) (fun t4 _ => lenOf t4)
          case atStart => exact ⟨0, n + 8, ao6, cap6, rfl, by omega, HF10.out, KO9.out, KK.out⟩
          case round =>
            obtain ⟨wj, rfl⟩ : ∃ x, x = wr := ⟨_, rfl⟩
            obtain ⟨t, m, ao10, cap10, rfl, hm, hF, hO, hK⟩ := hrel
            have hfl : fb.length = n + 8 := HL.out
            have hdl : (fb.drop (64 * t)).length = m := by rw [List.length_drop]; omega
            have hcl := hF.1.len.2
            have hdv : m % 64 = 0 := by have := HDIV.out; omega
            have KF := Lib.hid hF
            have KO := Lib.hid hO
            have KK2 := Lib.hid hK
            have HDL := Lib.hid hdl
            have zj := hO.k3.lt
            have zk := hK.lt
            clear hF hO hK hfl hdl KO9 KK HF10
            by_cases hlt : 0 < m
            · have hm64 : 64 ≤ m := by omega
              have hlti : (0 : Int) < (m : Int) := by omega
              obtain ⟨H, hH⟩ : ∃ H, H = blocksTo fb t := ⟨_, rfl⟩
              have hHl : H.length = 8 := by rw [hH]; exact blocks_len fb t
              have hsucc := blocks_succ fb t
              rw [← hH] at KO hsucc
              have HS := Lib.hid hsucc
              have HHL := Lib.hid hHl
              have HSZ := Lib.hid (show (Try.prog.info? 170).map (·.size) = some (H.map wv).length by rw [List.length_map, hHl]; exact size_a8)
              have HKS2 := Lib.hid (show (Try.prog.info? 171).map (·.size) = some (K256.map wv).length from HKS.out)
              have HC8 := Lib.hid (show ∀ k u, (H.map wv)[k]? = some u → wj.cell? ⟨w.heap.size + 1, 0 + k, none⟩ = some u by intro k u hu; rw [Nat.zero_add, Cs.cell KO.out.k3]; simpa using hu)
              have HC64 := Lib.hid (show ∀ k u, (K256.map wv)[k]? = some u → wj.cell? ⟨g7, 0 + k, none⟩ = some u by intro k u hu; rw [Nat.zero_add, Cs.cell KK2.out]; simpa using hu)
              have hmix := mix_any H K256 hHl K256_len (.slice ao10 m cap10) (fb.drop (64 * t)) wj KF.out.1 (fun g hg => KF.out.1.block_lt (by have := HDL.out; omega) g hg) (by have := HDL.out; omega)
              rw [← hsucc] at hmix
              have HMIX := Lib.hid hmix
              clear hH hHl hsucc hmix
              go_upto_region 14 with (fail)
              go_step
              refine wpList_loadA rfl 170 (.tmp 3) rfl Try.underlying170 rfl (g := w.heap.size + 1) (off := 0) (cs := H.map wv) HSZ.out rfl HC8.out ?_
              simp only [Act.put, List.setIfInBounds_toArray, List.set_cons_zero, List.set_cons_succ]
              refine wpList_loadA rfl 171 (.tmp 7) rfl Try.underlying171 rfl (g := g7) (off := 0) (cs := K256.map wv) HKS2.out rfl HC64.out ?_
              simp only [Act.put, List.setIfInBounds_toArray, List.set_cons_zero, List.set_cons_succ]
              go_wp2_with fail
              refine (HMIX.out).mono ?_
              rintro e w10 ⟨rfl, hm10⟩
              obtain ⟨H2, hH2⟩ : ∃ H2, H2 = blocksTo fb (t + 1) := ⟨_, rfl⟩
              have hH2l : H2.length = 8 := by rw [hH2]; exact blocks_len fb (t + 1)
              rw [← hH2]
              have HH2 := Lib.hid hH2
              have HSZ2 := Lib.hid (show (Try.prog.info? 170).map (·.size) = some (H2.map wv).length by rw [List.length_map, hH2l]; exact size_a8)
              have HFT := Lib.hid (show 0 + (H2.map wv).length ≤ (H.map wv).toArray.size by simp [hH2l, HHL.out])
              have HLY := Lib.hid (lay_whole (H.map wv).toArray (H2.map wv) (by simp [hH2l, HHL.out]))
              have z10 := hm10.size
              have KO10 := Lib.hid (KO.out.mod hm10 (fun k h => h.elim))
              have KK10 := Lib.hid (KK2.out.mod hm10 (fun h => h))
              have KF10 := Lib.hid (KF.out.mod hm10 (fun _ _ h => h))
              clear hH2 hH2l hm10 KO KK2 KF HMIX HC8 HC64
              go_wp2_with ((with_reducible show wpList _ _ _ (Oper.mk none (Op.store 170 (.tmp 3) (.tmp 50)) _ _ _ _ :: _) _ _); go_must (refine wpList_storeA rfl 170 (.tmp 3) (.tmp 50) rfl KO10.out.k3 (off := 0) (vs := H2.map wv) HSZ2.out (wv_one _) HFT.out rfl rfl ?_))
              intro w11 hc11 hm11
              rw [HLY.out] at hc11
              have z11 := hm11.size
              have KO11 := Lib.hid (KO10.out.put hm11 hc11)
              have KK11 := Lib.hid (KK10.out.mod hm11 (by omega))
              have KF11 := KF10.out.mod hm11 (by intro k h1 h2; (try dsimp only at h1 h2); omega)
              have hdd : (fb.drop (64 * t)).drop 64 = fb.drop (64 * (t + 1)) := by rw [List.drop_drop]; congr 1
              clear hc11 hm11 KO10 KK10 KF10
              rw [HH2.out] at KO11
              by_cases hc64 : cap10 = 64
              · have hta := RdB.tail_at KF11.1 64 (by rw [HDL.out]; omega) hc64
                rw [hdd, HDL.out] at hta
                have HTA := Lib.hid (show RdR (fun k => w.heap.size + 2 ≤ k ∧ k < g7) fb.length w11 (.slice ao10 (m - 64) 0) (fb.drop (64 * (t + 1))) from ⟨hta, fun h0 g hg => KF11.2.1 (by rw [HDL.out]; omega) g (by cases ao10 <;> simp_all [Value.ownBlock]), by simp⟩)
                clear hta KF11 hdd
                go_wp2
                go_roundw
                case rel => exact ⟨t + 1, m - 64, ao10, 0, rfl, by omega, HTA.out, KO11.out, KK11.out⟩
                case measure => simp [lenOf]; omega
              · have hta := RdB.tail_in KF11.1 64 (by rw [HDL.out]; omega) hc64
                rw [hdd, HDL.out] at hta
                have HTA := Lib.hid (show RdR (fun k => w.heap.size + 2 ≤ k ∧ k < g7) fb.length w11 (.slice (ao10.map fun x => x.add 64) (m - 64) (cap10 - 64)) (fb.drop (64 * (t + 1))) from ⟨hta, fun h0 g hg => KF11.2.1 (by rw [HDL.out]; omega) g (by rw [← ownBlock_map ao10 64 (m - 64) (cap10 - 64) m cap10]; exact hg), by simp⟩)
                clear hta KF11 hdd
                go_wp2
                go_roundw
                case rel => exact ⟨t + 1, m - 64, ao10.map fun x => x.add 64, cap10 - 64, rfl, by omega, HTA.out, KO11.out, KK11.out⟩
                case measure => simp [lenOf]; omega
            · obtain rfl : m = 0 := by omega
              have hn0 : n + 8 = 64 * t := by omega
              have htl : t = fb.length / 64 := by have := HL.out; omega
              have hres : shaF bs = (List.range 32).map (outB (blocksTo fb t)) := by rw [htl, HFB.out]; rfl
              obtain ⟨H, hH⟩ : ∃ H, H = blocksTo fb t := ⟨_, rfl⟩
              have hHl : H.length = 8 := by rw [hH]; exact blocks_len fb t
              rw [← hH] at KO hres
              have HRES := Lib.hid (show outTo H 32 = shaF bs by rw [hres]; simp [outTo])
              have HHL := Lib.hid hHl
              have HSZ := Lib.hid (show (Try.prog.info? 170).map (·.size) = some (H.map wv).length by rw [List.length_map, hHl]; exact size_a8)
              have z12 := KO.out.k3.lt
              clear hH hHl hres htl hn0 hm KF KK2 HDL HL HFB HDIV HX hdv hlt
              go_upto_region 16 with (fail)
              obtain ⟨w12, hw12⟩ : ∃ x, x = wj.alloc (.cells ((List.replicate 32 0).map bv).toArray 25) := ⟨_, rfl⟩
              change Code.wp _ _ _ _ (wj.alloc (.cells ((List.replicate 32 0).map bv).toArray 25))
              rw [← hw12]
              have hm12 : Mod (fun _ => False) wj w12 := by rw [hw12]; exact (Mod.refl _ _).alloc _
              have KO12 := Lib.hid (KO.out.mod hm12 (fun k h => h.elim))
              have KT := Lib.hid (show Cs w12 wj.heap.size ((outTo H 0).map bv).toArray 25 by rw [hw12]; exact Cs.new _ _ _)
              have HC8 := Lib.hid (show ∀ k u, (H.map wv)[k]? = some u → w12.cell? ⟨w.heap.size + 1, 0 + k, none⟩ = some u by intro k u hu; rw [Nat.zero_add, Cs.cell KO12.out.k3]; simpa using hu)
              obtain ⟨g8, hg8⟩ : ∃ g, g = wj.heap.size := ⟨_, rfl⟩
              rw [← hg8] at KT z12
              rw [← hg8]
              clear hw12 hm12 KO hg8
              go_step
              refine wpList_loadA rfl 170 (.tmp 3) rfl Try.underlying170 rfl (g := w.heap.size + 1) (off := 0) (cs := H.map wv) HSZ.out rfl HC8.out ?_
              simp only [Act.put, List.setIfInBounds_toArray, List.set_cons_zero, List.set_cons_succ]
              clear HC8
              go_wp2
              go_loopw [52] (fun t52 wr => ∃ (i : Nat), t52 = .int .i64 i ∧ i ≤ 8 ∧ Cs wr g8 ((outTo H (4 * i)).map bv).toArray 25 ∧ SumO w H wr) (fun t52 _ => 8 - (intOf t52).toNat)
              case atStart => exact ⟨0, rfl, by omega, KT.out, KO12.out⟩
              case round =>
                obtain ⟨wk, rfl⟩ : ∃ x, x = wr := ⟨_, rfl⟩
                obtain ⟨i, rfl, hi, hT, hO⟩ := hrel
                clear KT KO12
                have KT := Lib.hid hT
                have KO := Lib.hid hO
                clear hT hO
                by_cases hlt : i < 8
                · obtain ⟨x, hx⟩ : ∃ x, x = H.getD i 0 := ⟨_, rfl⟩
                  have HX := Lib.hid hx
                  clear hx
                  have hsz1 : (Try.prog.info? 169).map (·.size) = some 1 := by kernel_rfl
                  have HS1 := Lib.hid hsz1
                  clear hsz1
                  go_wp2_with ((with_reducible show wpList _ _ _ (Oper.mk (some 55) _ _ _ _ _ :: _) _ _); go_must (refine wpList_idxA rfl 170 (.tmp 51) (.tmp 52) rfl (i := i) Try.underlying170 Try.underlying169 HS1.out H HHL.out hlt rfl rfl ?_); rw [← HX.out])
                  go_loopw [56] (fun t56 wr => ∃ (j : Nat), t56 = .int .i64 j ∧ j ≤ 4 ∧ Cs wr g8 ((outTo H (4 * i + j)).map bv).toArray 25 ∧ SumO w H wr) (fun t56 _ => 4 - (intOf t56).toNat)
                  case atStart => exact ⟨0, rfl, by omega, KT.out, KO.out⟩
                  case round =>
                    obtain ⟨wm, rfl⟩ : ∃ x, x = wr := ⟨_, rfl⟩
                    obtain ⟨j, rfl, hj, hT, hO⟩ := hrel
                    clear KT KO
                    have KT := Lib.hid hT
                    have KO := Lib.hid hO
                    clear hT hO
                    by_cases hlj : j < 4
                    · have hq : 4 * i + j < 32 := by omega
                      have hl32 := outTo_len H (4 * i + j) (by omega)
                      have hc : wm.cell? ⟨g8, 4 * i + j, none⟩ = some (bv ((outTo H (4 * i + j)).getD (4 * i + j) 0)) := by
                        rw [KT.out.cell]; simp [List.getD, hl32, hq]
                      have hf := KT.out.frozen (4 * i + j)
                      have hnext := Cs_setB KT.out (4 * i + j) (outB H (4 * i + j))
                      rw [outTo_succ H _ hq, outB_at H i j hlj, ← HX.out] at hnext
                      have hmm : Mod (fun k => k = g8) wm (wm.setCell ⟨g8, 4 * i + j, none⟩ (bv (x / 2 ^ (24 - 8 * j) % 256))) := Mod.setCell (Mod.refl (fun k => k = g8) wm) (p := ⟨g8, 4 * i + j, none⟩) (fun _ => rfl) _
                      have hon := KO.out.mod hmm (fun k hk => by omega)
                      have HNX := Lib.hid hnext
                      have HON := Lib.hid hon
                      generalize (outTo H (4 * i + j)).getD (4 * i + j) 0 = old at hc
                      clear hnext hmm hon hl32
                      have HJ := Lib.hid hlj
                      match j, hlj with
                      | 0, _ =>
                        have h1 := HNX.out
                        have h2 := HON.out
                        rw [show (2 : Int) ^ (24 - 8 * 0) = 16777216 from by decide] at h1 h2
                        simp only [Nat.add_zero] at hc hf
                        have H1 := Lib.hid h1
                        have H2 := Lib.hid h2
                        clear h1 h2 HNX HON
                        go_wp2
                        go_roundw
                        case rel => exact ⟨0 + 1, by go_num, by omega, H1.out, H2.out⟩
                        case measure => first | (simp [intOf]; done) | (simp [intOf]; omega)
                      | 1, _ =>
                        have h1 := HNX.out
                        have h2 := HON.out
                        rw [show (2 : Int) ^ (24 - 8 * 1) = 65536 from by decide] at h1 h2
                        skip
                        have H1 := Lib.hid h1
                        have H2 := Lib.hid h2
                        clear h1 h2 HNX HON
                        go_wp2
                        go_roundw
                        case rel => exact ⟨1 + 1, by go_num, by omega, H1.out, H2.out⟩
                        case measure => first | (simp [intOf]; done) | (simp [intOf]; omega)
                      | 2, _ =>
                        have h1 := HNX.out
                        have h2 := HON.out
                        rw [show (2 : Int) ^ (24 - 8 * 2) = 256 from by decide] at h1 h2
                        skip
                        have H1 := Lib.hid h1
                        have H2 := Lib.hid h2
                        clear h1 h2 HNX HON
                        go_wp2
                        go_roundw
                        case rel => exact ⟨2 + 1, by go_num, by omega, H1.out, H2.out⟩
                        case measure => first | (simp [intOf]; done) | (simp [intOf]; omega)
                      | 3, _ =>
                        have h1 := HNX.out
                        have h2 := HON.out
                        rw [show (2 : Int) ^ (24 - 8 * 3) = 1 from by decide, Int.ediv_one] at h1 h2
                        skip
                        have H1 := Lib.hid h1
                        have H2 := Lib.hid h2
                        clear h1 h2 HNX HON
                        go_wp2
                        go_roundw
                        case rel => exact ⟨3 + 1, by go_num, by omega, H1.out, H2.out⟩
                        case measure => first | (simp [intOf]; done) | (simp [intOf]; omega)
                    · obtain rfl : j = 4 := by omega
                      go_wp2
                      go_roundw
                      case rel => exact ⟨i + 1, by go_num, by omega, by have := KT.out; rw [show 4 * i + 4 = 4 * (i + 1) by omega] at this; exact this, KO.out⟩
                      case measure => first | (simp [intOf]; done) | (simp [intOf]; omega)
                · obtain rfl : i = 8 := by omega
                  have hF := HRES.out
                  obtain ⟨F, hFF⟩ : ∃ F, F = shaF bs := ⟨_, rfl⟩
                  rw [← hFF] at hF
                  have hFl : F.length = 32 := by rw [hFF]; exact shaF_len bs
                  have hT := KT.out
                  rw [show 4 * 8 = 32 from rfl, hF] at hT
                  have HT := Lib.hid hT
                  have HFF2 := Lib.hid hFF
                  have HSF := Lib.hid (show (Try.prog.info? 25).map (·.size) = some (F.map bv).length by rw [List.length_map, hFl]; exact size_hash)
                  have HCF := Lib.hid (show ∀ k u, (F.map bv)[k]? = some u → wk.cell? ⟨g8, 0 + k, none⟩ = some u by intro k u hu; rw [Nat.zero_add, HT.out.cell]; simpa using hu)
                  have HFF := Lib.hid (show 0 + (F.map bv).length ≤ ((List.replicate 32 0).map bv).toArray.size by simp [hFl])
                  have HLY := Lib.hid (lay_whole ((List.replicate 32 0).map bv).toArray (F.map bv) (by simp [hFl]))
                  clear hF hFF hFl hT KT
                  rw [show ((8 : Nat) : Int) = 8 from rfl]
                  go_upto_region 25 with (fail)
                  go_step
                  refine wpList_loadA rfl 25 (.tmp 8) rfl Try.underlying25 rfl (g := g8) (off := 0) (cs := F.map bv) HSF.out rfl HCF.out ?_
                  simp only [Act.put, List.setIfInBounds_toArray, List.set_cons_zero, List.set_cons_succ]
                  refine wpList_storeA rfl 25 (.tmp 2) (.tmp 72) rfl KO.out.k2 (vs := F.map bv) HSF.out (ints_oneCell .u8 _) HFF.out rfl rfl ?_
                  intro w20 hc20 hm20
                  rw [HLY.out] at hc20
                  go_wp2
                  refine bodyPost_ret (results_cellA rfl _ _ w.heap.size (F.map bv) rfl (fun k u hu => by rw [hc20.cell]; simpa using hu) Try.underlying25 rfl HSF.out) rfl ⟨by rw [HFF2.out]; rfl, KO.out.m.trans (hm20.mono (S' := fun k => k = w.heap.size) (fun k _ hk => hk)) (by intro k h1 h2; omega)⟩
end Go.Proofs.Ytknpapcfhnhheaa

/- A writer that a region fills, one call behind the other: the state for wp_region_G. -/
namespace Go.Proofs.Ytknpapcfhnhheaa
open Go Go.RowKit Go.Gv

end Go.Proofs.Ytknpapcfhnhheaa

/- commit.Of. -/
namespace Go.Proofs.Ytknpapcfhnhheaa
open Go Go.RowKit Go.Gv

def I64 (n : Int) : Prop := -9223372036854775808 ≤ n ∧ n ≤ 9223372036854775807
end Go.Proofs.Ytknpapcfhnhheaa

/- commit.Text. -/
namespace Go.Proofs.Ytknpapcfhnhheaa
open Go Go.RowKit Go.Gv

/-- a commitment -/
structure Cm where
 cl : Int
 sq : Int
 h : List Int
 ln : Int
 sb : Int
 mr : Int
def Cm.cells (c : Cm) : List Value := [.int .i64 c.cl, .int .i64 c.sq] ++ (c.h.map bv ++ [.int .i64 c.ln, .int .i64 c.sb, .int .i64 c.mr])
def Cm.val (c : Cm) : Value := .agg c.cells.toArray
/-- its numbers are numbers, its hash is one -/
def Cm.OK (c : Cm) : Prop := (I64 c.cl ∧ I64 c.sq ∧ I64 c.ln ∧ I64 c.sb ∧ I64 c.mr) ∧ c.h.length = 32 ∧ Bytes c.h
theorem Cm.len {c : Cm} (h : c.h.length = 32) : c.cells.length = 37 := by simp [Cm.cells, h]
theorem size_commit : (Try.prog.info? 49).map (·.size) = some 37 := by kernel_rfl
section
variable {w : World} {g : Nat} {c : Cm} {T : TypeId}
end
end Go.Proofs.Ytknpapcfhnhheaa
namespace Go.Gv
open Go Go.RowKit Go.Proofs.Ytknpapcfhnhheaa
section
variable {w : World} {g : Nat} {c : Cm} {T : TypeId}
theorem Cs.c0 (h : Cs w g c.cells.toArray T) : w.cell? ⟨g, 0, none⟩ = some (.int .i64 c.cl) := by rw [h.cell]; rfl
theorem Cs.c1 (h : Cs w g c.cells.toArray T) : w.cell? ⟨g, 1, none⟩ = some (.int .i64 c.sq) := by rw [h.cell]; rfl
theorem Cs.far (h : Cs w g c.cells.toArray T) (hl : c.h.length = 32) (j : Nat) : w.cell? ⟨g, 34 + j, none⟩ = ([Value.int .i64 c.ln, .int .i64 c.sb, .int .i64 c.mr] : List Value)[j]? := by
 rw [h.cell]
 simp only [List.getElem?_toArray, Cm.cells]
 rw [List.getElem?_append_right (by simp; omega), List.getElem?_append_right (by simp [hl]; omega)]
 simp only [List.length_cons, List.length_nil, List.length_map, hl]
 congr 1
 omega
theorem Cs.c34 (h : Cs w g c.cells.toArray T) (hl : c.h.length = 32) : w.cell? ⟨g, 34, none⟩ = some (.int .i64 c.ln) := Cs.far h hl 0
theorem Cs.hash (h : Cs w g c.cells.toArray T) : ∀ j u, (c.h.map bv)[j]? = some u → w.cell? ⟨g, 2 + j, none⟩ = some u := by
 intro j u hu
 rw [h.cell]
 simp only [List.getElem?_toArray, Cm.cells]
 rw [List.getElem?_append_right (by simp), List.getElem?_append_left (by simpa using (List.getElem?_eq_some_iff.1 hu).1)]
 simpa using hu
theorem Cs.name (h : Cs w g c.cells.toArray T) : ∀ j u, ([Value.int .i64 c.cl, .int .i64 c.sq] : List Value)[j]? = some u → w.cell? ⟨g, 0 + j, none⟩ = some u := by
 intro j u hu
 rw [Nat.zero_add, h.cell]
 simp only [List.getElem?_toArray, Cm.cells]
 rw [List.getElem?_append_left (List.getElem?_eq_some_iff.1 hu).1]
 exact hu
theorem Cs.sig (h : Cs w g c.cells.toArray T) (hl : c.h.length = 32) : ∀ j u, ([Value.int .i64 c.sb, .int .i64 c.mr] : List Value)[j]? = some u → w.cell? ⟨g, 35 + j, none⟩ = some u := by
 intro j u hu
 have := Cs.far h hl (1 + j)
 rw [show 34 + (1 + j) = 35 + j by omega] at this
 rw [this, Nat.add_comm]
 exact hu
theorem Cs.whole {cs : List Value} (h : Cs w g cs.toArray T) : ∀ j u, cs[j]? = some u → w.cell? ⟨g, 0 + j, none⟩ = some u := by
 intro j u hu
 rw [Nat.zero_add, h.cell]
 simpa using hu
end
end Go.Gv
namespace Go.Proofs.Ytknpapcfhnhheaa
open Go Go.RowKit Go.Gv
end Go.Proofs.Ytknpapcfhnhheaa

/- Hashes as keys of maps; zeros. -/
namespace Go.Proofs.Ytknpapcfhnhheaa
open Go Go.RowKit Go.Gv
open Go.Maps (Keyed)

/-- a hash -/
def HK (bs : List Int) : Prop := bs.length = 32 ∧ Bytes bs
end Go.Proofs.Ytknpapcfhnhheaa

/- The kinds of things that messages are made of: their cells, what reads as one. -/
namespace Go.Proofs.Ytknpapcfhnhheaa
open Go Go.RowKit Go.Gv

/-- a stamp, or an ack -/
structure St where
 rp : Int
 cl : Int
 sq : Int
 h : List Int
 tm : Nat
 sb : Int
 mr : Int
abbrev St.cells (x : St) : List Value := [.int .i64 x.rp, .int .i64 x.cl, .int .i64 x.sq] ++ (x.h.map bv ++ [.int .u64 (x.tm : Nat), .int .i64 x.sb, .int .i64 x.mr])
abbrev St.val (x : St) : Value := .agg x.cells.toArray
structure St.OK (x : St) : Prop where
 rp : I64 x.rp
 cl : I64 x.cl
 sq : I64 x.sq
 h : HK x.h
 tm : x.tm < U64
 sb : I64 x.sb
 mr : I64 x.mr
theorem St.len {x : St} (h : x.OK) : x.cells.length = 38 := by simp [St.cells, h.h.1]
theorem St.one (x : St) : ∀ u ∈ x.cells, u.oneCell' = true := by
 intro u hu
 simp only [St.cells, List.mem_append, List.mem_cons, List.not_mem_nil, or_false, List.mem_map] at hu
 rcases hu with (rfl | rfl | rfl) | ⟨y, -, rfl⟩ | rfl | rfl | rfl <;> rfl
def StR : Rep St := Rep.flat 38 (by decide) St.cells St.OK (fun a h => St.len h) (fun a _ => St.one a)
/-- a vote -/
structure Vt where
 kd : Int
 ep : Int
 rd : Int
 rp : Int
 h : List Int
 sb : Int
 mr : Int
abbrev Vt.cells (x : Vt) : List Value := [.int .i64 x.kd, .int .i64 x.ep, .int .i64 x.rd, .int .i64 x.rp] ++ (x.h.map bv ++ [.int .i64 x.sb, .int .i64 x.mr])
abbrev Vt.val (x : Vt) : Value := .agg x.cells.toArray
structure Vt.OK (x : Vt) : Prop where
 kd : I64 x.kd
 ep : I64 x.ep
 rd : I64 x.rd
 rp : I64 x.rp
 h : HK x.h
 sb : I64 x.sb
 mr : I64 x.mr
theorem Vt.len {x : Vt} (h : x.OK) : x.cells.length = 38 := by simp [Vt.cells, h.h.1]
theorem Vt.one (x : Vt) : ∀ u ∈ x.cells, u.oneCell' = true := by
 intro u hu
 simp only [Vt.cells, List.mem_append, List.mem_cons, List.not_mem_nil, or_false, List.mem_map] at hu
 rcases hu with (rfl | rfl | rfl | rfl) | ⟨y, -, rfl⟩ | rfl | rfl <;> rfl
/-- a denial -/
structure Dn where
 rp : Int
 ix : Int
 sb : Int
 mr : Int
abbrev Dn.cells (x : Dn) : List Value := [.int .i64 x.rp, .int .i64 x.ix, .int .i64 x.sb, .int .i64 x.mr]
abbrev Dn.val (x : Dn) : Value := .agg x.cells.toArray
structure Dn.OK (x : Dn) : Prop where
 rp : I64 x.rp
 ix : I64 x.ix
 sb : I64 x.sb
 mr : I64 x.mr
theorem Dn.len {x : Dn} (h : x.OK) : x.cells.length = 4 := by rfl
theorem Dn.one (x : Dn) : ∀ u ∈ x.cells, u.oneCell' = true := by
 intro u hu
 simp only [Dn.cells, List.mem_cons, List.not_mem_nil, or_false] at hu
 rcases hu with rfl | rfl | rfl | rfl <;> rfl
def DnR : Rep Dn := Rep.flat 4 (by decide) Dn.cells Dn.OK (fun a h => Dn.len h) (fun a _ => Dn.one a)
/-- an entry -/
structure En where
 cl : Int
 sq : Int
 h : List Int
 tm : Nat
abbrev En.cells (x : En) : List Value := [.int .i64 x.cl, .int .i64 x.sq] ++ (x.h.map bv ++ [.int .u64 (x.tm : Nat)])
abbrev En.val (x : En) : Value := .agg x.cells.toArray
structure En.OK (x : En) : Prop where
 cl : I64 x.cl
 sq : I64 x.sq
 h : HK x.h
 tm : x.tm < U64
theorem En.len {x : En} (h : x.OK) : x.cells.length = 35 := by simp [En.cells, h.h.1]
theorem En.one (x : En) : ∀ u ∈ x.cells, u.oneCell' = true := by
 intro u hu
 simp only [En.cells, List.mem_append, List.mem_cons, List.not_mem_nil, or_false, List.mem_map] at hu
 rcases hu with (rfl | rfl) | ⟨y, -, rfl⟩ | rfl <;> rfl
theorem RdR_keep {R : Nat → Prop} {N : Nat} {w w' : World} {v : Value} {bs : List Int} (h : RdR R N w v bs) (hk : ∀ p u, R p.block → w.cell? p = some u → w'.cell? p = some u) : RdR R N w' v bs :=
 ⟨⟨h.1.1, h.1.2.keepc fun h0 g hg p u hp hc => hk p u (hp ▸ h.2.1 h0 g hg) hc⟩, h.2⟩
theorem RdR_tight {R : Nat → Prop} {N : Nat} {w : World} {v : Value} {bs : List Int} (h : RdR R N w v bs) : RdR (fun k => R k ∧ k < w.heap.size) N w v bs :=
 ⟨h.1, fun h0 g hg => ⟨h.2.1 h0 g hg, h.1.2.lt (by decide) h0 hg⟩, h.2.2⟩
theorem Cm_one (c : Cm) : ∀ u ∈ c.cells, u.oneCell' = true := by
 intro u hu
 simp only [Cm.cells, List.mem_append, List.mem_cons, List.not_mem_nil, or_false, List.mem_map] at hu
 rcases hu with (rfl | rfl) | ⟨x, -, rfl⟩ | rfl | rfl | rfl <;> rfl
def CmR : Rep Cm := Rep.flat 37 (by decide) Cm.cells Cm.OK (fun a h => Cm.len h.2.1) (fun a _ => Cm_one a)
/-- a certificate -/
structure Ce where
 c : Cm
 l : List St
abbrev Ce.cells (x : Ce) (v_l : Value) : List Value := x.c.cells ++ [v_l]
def Ce.OK (x : Ce) : Prop := x.c.OK
def Ce.rd (R : Nat → Prop) (w : World) (cs : List Value) (x : Ce) : Prop := ∃ v_l, cs = x.cells v_l ∧ x.OK ∧ RdS StR R w v_l x.l
def CeR : Rep Ce where
 sz := 38
 pos := by decide
 rd := Ce.rd
 len h := by
  obtain ⟨v_l, rfl, hok, h0⟩ := h
  simp [Ce.cells, Cm.len hok.2.1]
 one h := by
  obtain ⟨v_l, rfl, hok, h0⟩ := h
  obtain ⟨_, _, e_l⟩ := h0.shape
  subst e_l
  intro u hu
  simp only [Ce.cells, List.mem_append, List.mem_cons, List.not_mem_nil, or_false, List.mem_map] at hu
  rcases hu with hu | rfl
  ·exact Cm_one _ _ hu
  ·rfl
 keep h hk := by
  obtain ⟨v_l, rfl, hok, h0⟩ := h
  exact ⟨_, rfl, hok, h0.keep hk⟩
 wid h hs := by
  obtain ⟨v_l, rfl, hok, h0⟩ := h
  exact ⟨_, rfl, hok, h0.widen hs⟩
 tight h := by
  obtain ⟨v_l, rfl, hok, h0⟩ := h
  exact ⟨_, rfl, hok, h0.tight⟩
/-- a promise -/
structure Pm where
 rp : Int
 ep : Int
 fl : Nat
 l : List Ce
 sb : Int
 mr : Int
abbrev Pm.cells (x : Pm) (v_l : Value) : List Value := [.int .i64 x.rp, .int .i64 x.ep, .int .u64 (x.fl : Nat), v_l, .int .i64 x.sb, .int .i64 x.mr]
def Pm.OK (x : Pm) : Prop := I64 x.rp ∧ I64 x.ep ∧ x.fl < U64 ∧ I64 x.sb ∧ I64 x.mr
def Pm.rd (R : Nat → Prop) (w : World) (cs : List Value) (x : Pm) : Prop := ∃ v_l, cs = x.cells v_l ∧ x.OK ∧ RdS CeR R w v_l x.l
def PmR : Rep Pm where
 sz := 6
 pos := by decide
 rd := Pm.rd
 len h := by
  obtain ⟨v_l, rfl, hok, h0⟩ := h
  rfl
 one h := by
  obtain ⟨v_l, rfl, hok, h0⟩ := h
  obtain ⟨_, _, e_l⟩ := h0.shape
  subst e_l
  intro u hu
  simp only [Pm.cells, List.mem_append, List.mem_cons, List.not_mem_nil, or_false, List.mem_map] at hu
  rcases hu with rfl | rfl | rfl | rfl | rfl | rfl <;> rfl
 keep h hk := by
  obtain ⟨v_l, rfl, hok, h0⟩ := h
  exact ⟨_, rfl, hok, h0.keep hk⟩
 wid h hs := by
  obtain ⟨v_l, rfl, hok, h0⟩ := h
  exact ⟨_, rfl, hok, h0.widen hs⟩
 tight h := by
  obtain ⟨v_l, rfl, hok, h0⟩ := h
  exact ⟨_, rfl, hok, h0.tight⟩
/-- an opening -/
structure Op where
 ix : Int
 pl : List Int
 nc : List Int
abbrev Op.cells (x : Op) (v_pl : Value) : List Value := [.int .i64 x.ix, v_pl] ++ x.nc.map bv
def Op.OK (x : Op) : Prop := I64 x.ix ∧ HK x.nc
def Op.rd (R : Nat → Prop) (w : World) (cs : List Value) (x : Op) : Prop := ∃ v_pl, cs = x.cells v_pl ∧ x.OK ∧ RdR R x.pl.length w v_pl x.pl
def OpR : Rep Op where
 sz := 34
 pos := by decide
 rd := Op.rd
 len h := by
  obtain ⟨v_pl, rfl, hok, h0⟩ := h
  simp [Op.cells, hok.2.1]
 one h := by
  obtain ⟨v_pl, rfl, hok, h0⟩ := h
  obtain ⟨_, _, e_pl⟩ := h0.shape
  subst e_pl
  intro u hu
  simp only [Op.cells, List.mem_append, List.mem_cons, List.not_mem_nil, or_false, List.mem_map] at hu
  rcases hu with (rfl | rfl) | ⟨y, -, rfl⟩ <;> rfl
 keep h hk := by
  obtain ⟨v_pl, rfl, hok, h0⟩ := h
  exact ⟨_, rfl, hok, RdR_keep h0 hk⟩
 wid h hs := by
  obtain ⟨v_pl, rfl, hok, h0⟩ := h
  exact ⟨_, rfl, hok, h0.widen hs (Nat.le_refl _)⟩
 tight h := by
  obtain ⟨v_pl, rfl, hok, h0⟩ := h
  exact ⟨_, rfl, hok, RdR_tight h0⟩
/-- a tombstone -/
structure Tb where
 ix : Int
 l : List Dn
abbrev Tb.cells (x : Tb) (v_l : Value) : List Value := [.int .i64 x.ix, v_l]
def Tb.OK (x : Tb) : Prop := I64 x.ix
def Tb.rd (R : Nat → Prop) (w : World) (cs : List Value) (x : Tb) : Prop := ∃ v_l, cs = x.cells v_l ∧ x.OK ∧ RdS DnR R w v_l x.l
def TbR : Rep Tb where
 sz := 2
 pos := by decide
 rd := Tb.rd
 len h := by
  obtain ⟨v_l, rfl, hok, h0⟩ := h
  rfl
 one h := by
  obtain ⟨v_l, rfl, hok, h0⟩ := h
  obtain ⟨_, _, e_l⟩ := h0.shape
  subst e_l
  intro u hu
  simp only [Tb.cells, List.mem_append, List.mem_cons, List.not_mem_nil, or_false, List.mem_map] at hu
  rcases hu with rfl | rfl <;> rfl
 keep h hk := by
  obtain ⟨v_l, rfl, hok, h0⟩ := h
  exact ⟨_, rfl, hok, h0.keep hk⟩
 wid h hs := by
  obtain ⟨v_l, rfl, hok, h0⟩ := h
  exact ⟨_, rfl, hok, h0.widen hs⟩
 tight h := by
  obtain ⟨v_l, rfl, hok, h0⟩ := h
  exact ⟨_, rfl, hok, h0.tight⟩
/-- a batch -/
structure Ba where
 ep : Int
 tm : Nat
 ps : List Pm
 os : List Op
 ts : List Tb
abbrev Ba.cells (x : Ba) (v_ps v_os v_ts : Value) : List Value := [.int .i64 x.ep, .int .u64 (x.tm : Nat), v_ps, v_os, v_ts]
def Ba.OK (x : Ba) : Prop := I64 x.ep ∧ x.tm < U64
def Ba.rd (R : Nat → Prop) (w : World) (cs : List Value) (x : Ba) : Prop := ∃ v_ps v_os v_ts, cs = x.cells v_ps v_os v_ts ∧ x.OK ∧ RdS PmR R w v_ps x.ps ∧ RdS OpR R w v_os x.os ∧ RdS TbR R w v_ts x.ts
def BaR : Rep Ba where
 sz := 5
 pos := by decide
 rd := Ba.rd
 len h := by
  obtain ⟨v_ps, v_os, v_ts, rfl, hok, h0, h1, h2⟩ := h
  rfl
 one h := by
  obtain ⟨v_ps, v_os, v_ts, rfl, hok, h0, h1, h2⟩ := h
  obtain ⟨_, _, e_ps⟩ := h0.shape
  obtain ⟨_, _, e_os⟩ := h1.shape
  obtain ⟨_, _, e_ts⟩ := h2.shape
  subst e_ps e_os e_ts
  intro u hu
  simp only [Ba.cells, List.mem_append, List.mem_cons, List.not_mem_nil, or_false, List.mem_map] at hu
  rcases hu with rfl | rfl | rfl | rfl | rfl <;> rfl
 keep h hk := by
  obtain ⟨v_ps, v_os, v_ts, rfl, hok, h0, h1, h2⟩ := h
  exact ⟨_, _, _, rfl, hok, h0.keep hk, h1.keep hk, h2.keep hk⟩
 wid h hs := by
  obtain ⟨v_ps, v_os, v_ts, rfl, hok, h0, h1, h2⟩ := h
  exact ⟨_, _, _, rfl, hok, h0.widen hs, h1.widen hs, h2.widen hs⟩
 tight h := by
  obtain ⟨v_ps, v_os, v_ts, rfl, hok, h0, h1, h2⟩ := h
  exact ⟨_, _, _, rfl, hok, h0.tight, h1.tight, h2.tight⟩
/-- a proposal -/
structure Pr where
 ep : Int
 rn : Int
 vl : Int
 rp : Int
 ba : Ba
 sb : Int
 mr : Int
abbrev Pr.cells (x : Pr) (v_ps v_os v_ts : Value) : List Value := [.int .i64 x.ep, .int .i64 x.rn, .int .i64 x.vl, .int .i64 x.rp, .int .i64 x.ba.ep, .int .u64 (x.ba.tm : Nat), v_ps, v_os, v_ts, .int .i64 x.sb, .int .i64 x.mr]
def Pr.OK (x : Pr) : Prop := I64 x.ep ∧ I64 x.rn ∧ I64 x.vl ∧ I64 x.rp ∧ x.ba.OK ∧ I64 x.sb ∧ I64 x.mr
def Pr.rd (R : Nat → Prop) (w : World) (cs : List Value) (x : Pr) : Prop := ∃ v_ps v_os v_ts, cs = x.cells v_ps v_os v_ts ∧ x.OK ∧ RdS PmR R w v_ps x.ba.ps ∧ RdS OpR R w v_os x.ba.os ∧ RdS TbR R w v_ts x.ba.ts
end Go.Proofs.Ytknpapcfhnhheaa

/- Copies and cuts of lists of things. -/
namespace Go.Proofs.Ytknpapcfhnhheaa
open Go Go.RowKit Go.Gv

theorem info_St : (Try.prog.info? 30).map (fun i => (i.zero, i.size, i.bytes)) = some (some (.agg #[.int .i64 0, .int .i64 0, .int .i64 0, .int .u8 0, .int .u8 0, .int .u8 0, .int .u8 0, .int .u8 0, .int .u8 0, .int .u8 0, .int .u8 0, .int .u8 0, .int .u8 0, .int .u8 0, .int .u8 0, .int .u8 0, .int .u8 0, .int .u8 0, .int .u8 0, .int .u8 0, .int .u8 0, .int .u8 0, .int .u8 0, .int .u8 0, .int .u8 0, .int .u8 0, .int .u8 0, .int .u8 0, .int .u8 0, .int .u8 0, .int .u8 0, .int .u8 0, .int .u8 0, .int .u8 0, .int .u8 0, .int .u64 0, .int .i64 0, .int .i64 0]), 38, 80) := by kernel_rfl
theorem info_Dn : (Try.prog.info? 34).map (fun i => (i.zero, i.size, i.bytes)) = some (some (.agg #[.int .i64 0, .int .i64 0, .int .i64 0, .int .i64 0]), 4, 32) := by kernel_rfl
theorem info_Ce : (Try.prog.info? 52).map (fun i => (i.zero, i.size, i.bytes)) = some (some (.agg #[.int .i64 0, .int .i64 0, .int .u8 0, .int .u8 0, .int .u8 0, .int .u8 0, .int .u8 0, .int .u8 0, .int .u8 0, .int .u8 0, .int .u8 0, .int .u8 0, .int .u8 0, .int .u8 0, .int .u8 0, .int .u8 0, .int .u8 0, .int .u8 0, .int .u8 0, .int .u8 0, .int .u8 0, .int .u8 0, .int .u8 0, .int .u8 0, .int .u8 0, .int .u8 0, .int .u8 0, .int .u8 0, .int .u8 0, .int .u8 0, .int .u8 0, .int .u8 0, .int .u8 0, .int .u8 0, .int .i64 0, .int .i64 0, .int .i64 0, .slice none 0 0]), 38, 96) := by kernel_rfl
theorem info_Pm : (Try.prog.info? 55).map (fun i => (i.zero, i.size, i.bytes)) = some (some (.agg #[.int .i64 0, .int .i64 0, .int .u64 0, .slice none 0 0, .int .i64 0, .int .i64 0]), 6, 64) := by kernel_rfl
theorem info_Op : (Try.prog.info? 87).map (fun i => (i.zero, i.size, i.bytes)) = some (some (.agg #[.int .i64 0, .slice none 0 0, .int .u8 0, .int .u8 0, .int .u8 0, .int .u8 0, .int .u8 0, .int .u8 0, .int .u8 0, .int .u8 0, .int .u8 0, .int .u8 0, .int .u8 0, .int .u8 0, .int .u8 0, .int .u8 0, .int .u8 0, .int .u8 0, .int .u8 0, .int .u8 0, .int .u8 0, .int .u8 0, .int .u8 0, .int .u8 0, .int .u8 0, .int .u8 0, .int .u8 0, .int .u8 0, .int .u8 0, .int .u8 0, .int .u8 0, .int .u8 0, .int .u8 0, .int .u8 0]), 34, 64) := by kernel_rfl
theorem info_Tb : (Try.prog.info? 90).map (fun i => (i.zero, i.size, i.bytes)) = some (some (.agg #[.int .i64 0, .slice none 0 0]), 2, 32) := by kernel_rfl

/-- a function that copies a list of things; one that cuts it -/
def CopiesS {α : Type} (A : Rep α) (e : TypeId) (F : FuncId) : Prop := ∀ (R2 : Nat → Prop) (v : Value) (l : List α) (w : World), RdS A R2 w v l → (∀ k, R2 k → k < w.heap.size) → l.length ≤ 1000000 →
 Calls Try.prog F #[v] w fun e' w' => ∃ v', e' = .returned v' ∧ OwS A e (New w w') R2 w' v' l ∧ Mod (fun _ => False) w w'
def CutsS {α : Type} (A : Rep α) (e : TypeId) (F : FuncId) : Prop := ∀ (R2 : Nat → Prop) (v : Value) (l : List α) (n : Nat) (w : World), RdS A R2 w v l → (∀ k, R2 k → k < w.heap.size) → n ≤ 1000000 →
 Calls Try.prog F #[v, .int .i64 (n : Int)] w fun e' w' => ∃ v', e' = .returned v' ∧ OwS A e (New w w') R2 w' v' (l.take n) ∧ Mod (fun _ => False) w w'
set_option maxHeartbeats 2000000 in
theorem Copy_St : CopiesS StR 30 101 := by
 intro R2 v l w hs hB2 hl
 obtain ⟨ao, cap, rfl⟩ := hs.shape
 have HS := Lib.hid hs
 have HBT := Lib.hid hB2
 clear hs hB2
 go_enter Try.func101, Try.ntmps101
 go_upto_region 1 with (fail)
 have HM0 := hid (Mod.refl (fun _ => False) w)
 go_upto_region 1 with (fail)
 refine wp_region_U 5 [3, 4, 2] [0, 1, 2] (fun a0 HA0 => ?_)
 have oe0 := ev HA0 0 rfl
 refine QSeq.pure rfl _ (fun E => ex_move rfl (E.v oe0)) ?_
 refine QSeq.go fun act E => ?_
 refine qc_appS (A := StR) (e := 30) rfl (wanted_none rfl) rfl (.agg #[.int .i64 0, .int .i64 0, .int .i64 0, .int .u8 0, .int .u8 0, .int .u8 0, .int .u8 0, .int .u8 0, .int .u8 0, .int .u8 0, .int .u8 0, .int .u8 0, .int .u8 0, .int .u8 0, .int .u8 0, .int .u8 0, .int .u8 0, .int .u8 0, .int .u8 0, .int .u8 0, .int .u8 0, .int .u8 0, .int .u8 0, .int .u8 0, .int .u8 0, .int .u8 0, .int .u8 0, .int .u8 0, .int .u8 0, .int .u8 0, .int .u8 0, .int .u8 0, .int .u8 0, .int .u8 0, .int .u8 0, .int .u64 0, .int .i64 0, .int .i64 0]) 80 Try.underlying50 info_St (by rfl) (of_decide_eq_true (by kernel_rfl)) rfl (E.d 0 0) (OwS.nil _ _ (fun _ => False) (fun _ => False) _) (HS.out) (fun _ _ h => h) (by simp only [List.length_nil]; omega) (by simp only [List.length_nil]; rw [maxLen_val]; omega) ?_
 intro ao0 cap0 u1_1 qout hm
 have Hx1 := hid (qout.widen (R' := (fun k => (New w u1_1 k))) (E' := (fun k => (R2 k))) (fun _ h => h.elim (fun h => h.elim) (fun h => h)) (by intro k h1; rcases h1 with h1 | h1 <;> first | omega | exact h1.elim | exact h1))
 have zu1_1 := hm.size
 have Cx2 := hid (show Mod (fun _ => False) w u1_1 from hm)
 clear hm
 clear act E qout
 refine QSeq.pure rfl _ (fun E => ex_assign rfl (E.d 1 0)) ?_
 refine QSeq.nil (t' := [_, _, _]) rfl ?_
 obtain rfl := HA0.out
 clear HA0 oe0
 simp only [pz, Act.put, List.setIfInBounds_toArray, List.set_cons_zero, List.set_cons_succ]
 go_wp2
 go_ret
 have hq := Hx1.out
 exact ⟨_, rfl, hq.widen (by intro k h; omega) (by intro k h; exact h), (HM0.out.trans Cx2.out (fun _ _ h => h.elim))⟩
set_option maxHeartbeats 2000000 in
theorem Copy_Dn : CopiesS DnR 34 93 := by
 intro R2 v l w hs hB2 hl
 obtain ⟨ao, cap, rfl⟩ := hs.shape
 have HS := Lib.hid hs
 have HBT := Lib.hid hB2
 clear hs hB2
 go_enter Try.func93, Try.ntmps93
 go_upto_region 1 with (fail)
 have HM0 := hid (Mod.refl (fun _ => False) w)
 go_upto_region 1 with (fail)
 refine wp_region_U 5 [3, 4, 2] [0, 1, 2] (fun a0 HA0 => ?_)
 have oe0 := ev HA0 0 rfl
 refine QSeq.pure rfl _ (fun E => ex_move rfl (E.v oe0)) ?_
 refine QSeq.go fun act E => ?_
 refine qc_appS (A := DnR) (e := 34) rfl (wanted_none rfl) rfl (.agg #[.int .i64 0, .int .i64 0, .int .i64 0, .int .i64 0]) 32 Try.underlying88 info_Dn (by rfl) (of_decide_eq_true (by kernel_rfl)) rfl (E.d 0 0) (OwS.nil _ _ (fun _ => False) (fun _ => False) _) (HS.out) (fun _ _ h => h) (by simp only [List.length_nil]; omega) (by simp only [List.length_nil]; rw [maxLen_val]; omega) ?_
 intro ao0 cap0 u1_1 qout hm
 have Hx1 := hid (qout.widen (R' := (fun k => (New w u1_1 k))) (E' := (fun k => (R2 k))) (fun _ h => h.elim (fun h => h.elim) (fun h => h)) (by intro k h1; rcases h1 with h1 | h1 <;> first | omega | exact h1.elim | exact h1))
 have zu1_1 := hm.size
 have Cx2 := hid (show Mod (fun _ => False) w u1_1 from hm)
 clear hm
 clear act E qout
 refine QSeq.pure rfl _ (fun E => ex_assign rfl (E.d 1 0)) ?_
 refine QSeq.nil (t' := [_, _, _]) rfl ?_
 obtain rfl := HA0.out
 clear HA0 oe0
 simp only [pz, Act.put, List.setIfInBounds_toArray, List.set_cons_zero, List.set_cons_succ]
 go_wp2
 go_ret
 have hq := Hx1.out
 exact ⟨_, rfl, hq.widen (by intro k h; omega) (by intro k h; exact h), (HM0.out.trans Cx2.out (fun _ _ h => h.elim))⟩
set_option maxHeartbeats 2000000 in
theorem Cut_St : CutsS StR 30 72 := by
 intro R2 v l n w hs hB2 hn
 obtain ⟨css, k1, k2, ⟨k3, ao, cap, rfl, hlc, hcm, k5, k6⟩, k7⟩ := id hs
 clear k1 k2 k3 k5 k6 k7
 rw [maxLen_val] at hcm
 have HS := Lib.hid hs
 have HBT := Lib.hid hB2
 clear hs hB2
 clear css
 go_enter Try.func72, Try.ntmps72
 go_upto_region 1 with (fail)
 have HM0 := hid (Mod.refl (fun _ => False) w)
 go_upto_region 1 with (fail)
 refine wp_region_U 12 [5, 6, 7, 8, 9, 10, 11, 4] [0, 1, 2, 3, 4, 5, 6, 7] (fun a0 HA0 => ?_)
 have oe0 := ev HA0 0 rfl
 have oe1 := ev HA0 1 rfl
 refine QSeq.pure rfl _ (fun E => ex_move rfl (E.v oe0)) ?_
 refine QSeq.pure rfl _ (fun E => ex_move rfl (E.v oe0)) ?_
 refine QSeq.pure rfl (.int .i64 l.length) (fun E => ex_lenS rfl (E.d 1 0) Try.underlying50) ?_
 refine QSeq.pure rfl _ (fun E => ex_move rfl (E.v oe1)) ?_
 refine QSeq.pure rfl (.int .i64 ((min l.length n : Nat) : Int)) (fun E => ex_min (r := ((min l.length n : Nat) : Int)) rfl (E.d 2 1) (E.d 3 0) (by split <;> omega)) ?_
 refine QSeq.pure rfl (.slice ao (min l.length n) cap) (fun E => ex_sliceTo (i := min l.length n) (s := 38) rfl Try.underlying50 (by kernel_rfl) (E.d 0 4) (E.d 4 0) (by omega)) ?_
 refine QSeq.call rfl rfl Try.func101 (Copy_St _ _ (l.take (min l.length n)) _ (HS.out.upto (min l.length n) (by omega)) (by intro k h1; have hb := HBT.out k h1; omega) (by simp; omega)) (fun E => args1 (E.d 5 0)) ?_
 rintro e u1_6 ⟨v', rfl, qout, hm⟩
 refine ⟨_, rfl, ?_⟩
 have Hx1 := hid (qout.widen (R' := (fun k => (New w u1_6 k))) (E' := (fun k => (R2 k))) (fun _ h => h) (fun _ h => h))
 have zu1_6 := hm.size
 have Cx2 := hid (show Mod (fun _ => False) w u1_6 from hm)
 clear hm
 clear qout
 refine QSeq.pure rfl _ (fun E => ex_assign rfl (E.d 6 0)) ?_
 refine QSeq.nil (t' := [_, _, _, _, _, _, _, _]) rfl ?_
 obtain rfl := HA0.out
 clear HA0 oe0 oe1
 simp only [pz, Act.put, List.setIfInBounds_toArray, List.set_cons_zero, List.set_cons_succ]
 go_wp2
 go_ret
 have hq := Hx1.out
 rw [show l.take (min l.length n) = l.take n by rw [Nat.min_comm, ← List.take_take, List.take_length]] at hq
 exact ⟨v', rfl, hq.widen (by intro k h; omega) (fun _ h => h), (HM0.out.trans Cx2.out (fun _ _ h => h.elim))⟩
set_option maxHeartbeats 2000000 in
theorem Cut_Dn : CutsS DnR 34 78 := by
 intro R2 v l n w hs hB2 hn
 obtain ⟨css, k1, k2, ⟨k3, ao, cap, rfl, hlc, hcm, k5, k6⟩, k7⟩ := id hs
 clear k1 k2 k3 k5 k6 k7
 rw [maxLen_val] at hcm
 have HS := Lib.hid hs
 have HBT := Lib.hid hB2
 clear hs hB2
 clear css
 go_enter Try.func78, Try.ntmps78
 go_upto_region 1 with (fail)
 have HM0 := hid (Mod.refl (fun _ => False) w)
 go_upto_region 1 with (fail)
 refine wp_region_U 12 [5, 6, 7, 8, 9, 10, 11, 4] [0, 1, 2, 3, 4, 5, 6, 7] (fun a0 HA0 => ?_)
 have oe0 := ev HA0 0 rfl
 have oe1 := ev HA0 1 rfl
 refine QSeq.pure rfl _ (fun E => ex_move rfl (E.v oe0)) ?_
 refine QSeq.pure rfl _ (fun E => ex_move rfl (E.v oe0)) ?_
 refine QSeq.pure rfl (.int .i64 l.length) (fun E => ex_lenS rfl (E.d 1 0) Try.underlying88) ?_
 refine QSeq.pure rfl _ (fun E => ex_move rfl (E.v oe1)) ?_
 refine QSeq.pure rfl (.int .i64 ((min l.length n : Nat) : Int)) (fun E => ex_min (r := ((min l.length n : Nat) : Int)) rfl (E.d 2 1) (E.d 3 0) (by split <;> omega)) ?_
 refine QSeq.pure rfl (.slice ao (min l.length n) cap) (fun E => ex_sliceTo (i := min l.length n) (s := 4) rfl Try.underlying88 (by kernel_rfl) (E.d 0 4) (E.d 4 0) (by omega)) ?_
 refine QSeq.call rfl rfl Try.func93 (Copy_Dn _ _ (l.take (min l.length n)) _ (HS.out.upto (min l.length n) (by omega)) (by intro k h1; have hb := HBT.out k h1; omega) (by simp; omega)) (fun E => args1 (E.d 5 0)) ?_
 rintro e u1_6 ⟨v', rfl, qout, hm⟩
 refine ⟨_, rfl, ?_⟩
 have Hx1 := hid (qout.widen (R' := (fun k => (New w u1_6 k))) (E' := (fun k => (R2 k))) (fun _ h => h) (fun _ h => h))
 have zu1_6 := hm.size
 have Cx2 := hid (show Mod (fun _ => False) w u1_6 from hm)
 clear hm
 clear qout
 refine QSeq.pure rfl _ (fun E => ex_assign rfl (E.d 6 0)) ?_
 refine QSeq.nil (t' := [_, _, _, _, _, _, _, _]) rfl ?_
 obtain rfl := HA0.out
 clear HA0 oe0 oe1
 simp only [pz, Act.put, List.setIfInBounds_toArray, List.set_cons_zero, List.set_cons_succ]
 go_wp2
 go_ret
 have hq := Hx1.out
 rw [show l.take (min l.length n) = l.take n by rw [Nat.min_comm, ← List.take_take, List.take_length]] at hq
 exact ⟨v', rfl, hq.widen (by intro k h; omega) (fun _ h => h), (HM0.out.trans Cx2.out (fun _ _ h => h.elim))⟩
end Go.Proofs.Ytknpapcfhnhheaa

/- Certificates and promises that are cut. -/
namespace Go.Proofs.Ytknpapcfhnhheaa
open Go Go.RowKit Go.Gv


/-- what the laws leave of a certificate, a promise -/
def cutCe (x : Ce) : Ce := { x with l := x.l.take 5 }
def cutPm (x : Pm) : Pm := { x with l := (x.l.take 3).map cutCe }
/-- a function that gives a thing anew, cut -/
def CutR {α : Type} (A : Rep α) (F : FuncId) (f : α → α) : Prop := ∀ (R2 : Nat → Prop) (x : α) (cs : List Value) (w : World), A.rd R2 w cs x → (∀ k, R2 k → k < w.heap.size) →
 Calls Try.prog F #[.agg cs.toArray] w fun e w' => ∃ cs', e = .returned (.agg cs'.toArray) ∧ A.rd (fun k => R2 k ∨ New w w' k) w' cs' (f x) ∧ Mod (fun _ => False) w w'
theorem size_ce : (Try.prog.info? 52).map (·.size) = some (37 + 1) := by kernel_rfl
theorem one_ce (c : Cm) (v : Value) (h : v.oneCell' = true) : ∀ u ∈ c.cells ++ [v], u.oneCell' = true := by
 intro u hu
 rw [List.mem_append] at hu
 rcases hu with hu | hu
 ·exact Cm_one _ _ hu
 ·simp at hu; subst hu; exact h
theorem take_two {α : Type} {l : List α} {k n : Nat} (hk : k ≤ n) (h : k = n ∨ l.length ≤ k) : l.take k = l.take n := by
 rcases h with rfl | h
 ·rfl
 ·rw [List.take_of_length_le h, List.take_of_length_le (by omega)]
theorem lay_l (c : Cm) (u v : Value) (hl : c.h.length = 32) : lay (c.cells ++ [u]).toArray 37 [v] = (c.cells ++ [v]).toArray := by
 have h37 := Cm.len hl
 simp [lay, h37]
set_option maxHeartbeats 4000000 in
theorem LCert_c : CutR CeR 21 cutCe := by
 intro R2 x cs w hx hB2
 obtain ⟨v_l, rfl, hok, hs0⟩ := hx
 obtain ⟨ao, cap, rfl⟩ := hs0.shape
 have HS := Lib.hid hs0
 have HBT := Lib.hid hB2
 have HOK := Lib.hid hok
 clear hs0 hB2 hok
 go_enter Try.func21, Try.ntmps21
 go_upto_region 1 with (fail)
 obtain ⟨w1, hw1⟩ : ∃ zz, zz = ((w.alloc (.cells (x.cells (.slice ao x.l.length cap) : List Value).toArray 52)).alloc (.cells #[.int .i64 0, .int .i64 0, .int .u8 0, .int .u8 0, .int .u8 0, .int .u8 0, .int .u8 0, .int .u8 0, .int .u8 0, .int .u8 0, .int .u8 0, .int .u8 0, .int .u8 0, .int .u8 0, .int .u8 0, .int .u8 0, .int .u8 0, .int .u8 0, .int .u8 0, .int .u8 0, .int .u8 0, .int .u8 0, .int .u8 0, .int .u8 0, .int .u8 0, .int .u8 0, .int .u8 0, .int .u8 0, .int .u8 0, .int .u8 0, .int .u8 0, .int .u8 0, .int .u8 0, .int .u8 0, .int .i64 0, .int .i64 0, .int .i64 0, .slice none 0 0] 52)) := ⟨_, rfl⟩
 change Code.wp _ _ _ _ ((w.alloc (.cells (x.cells (.slice ao x.l.length cap) : List Value).toArray 52)).alloc (.cells #[.int .i64 0, .int .i64 0, .int .u8 0, .int .u8 0, .int .u8 0, .int .u8 0, .int .u8 0, .int .u8 0, .int .u8 0, .int .u8 0, .int .u8 0, .int .u8 0, .int .u8 0, .int .u8 0, .int .u8 0, .int .u8 0, .int .u8 0, .int .u8 0, .int .u8 0, .int .u8 0, .int .u8 0, .int .u8 0, .int .u8 0, .int .u8 0, .int .u8 0, .int .u8 0, .int .u8 0, .int .u8 0, .int .u8 0, .int .u8 0, .int .u8 0, .int .u8 0, .int .u8 0, .int .u8 0, .int .i64 0, .int .i64 0, .int .i64 0, .slice none 0 0] 52))
 rw [← hw1]
 have HB1 := hid (show Cs w1 (w.heap.size) (x.cells (.slice ao x.l.length cap) : List Value).toArray 52 by rw [hw1]; exact (Cs.new _ _ _).alloc _)
 have HB2 := hid (show Cs w1 (w.heap.size + 1) #[.int .i64 0, .int .i64 0, .int .u8 0, .int .u8 0, .int .u8 0, .int .u8 0, .int .u8 0, .int .u8 0, .int .u8 0, .int .u8 0, .int .u8 0, .int .u8 0, .int .u8 0, .int .u8 0, .int .u8 0, .int .u8 0, .int .u8 0, .int .u8 0, .int .u8 0, .int .u8 0, .int .u8 0, .int .u8 0, .int .u8 0, .int .u8 0, .int .u8 0, .int .u8 0, .int .u8 0, .int .u8 0, .int .u8 0, .int .u8 0, .int .u8 0, .int .u8 0, .int .u8 0, .int .u8 0, .int .i64 0, .int .i64 0, .int .i64 0, .slice none 0 0] 52 by rw [hw1]; exact Cs_newN _ _ _ (by simp))
 have hm : Mod (fun _ => False) w w1 := by rw [hw1]; exact ((Mod.refl _ _).alloc _).alloc _
 have HM0 := hid (show Mod (fun _ => False) w w1 from hm.mono (fun _ _ h => h.elim))
 have hs1 : w1.heap.size = w.heap.size + 2 := by rw [hw1]; simp
 have Hx1 := hid (HS.out.mod hm (fun _ _ h => h))
 clear HS
 clear hw1 hm
 go_upto_region 1 with (fail)
 refine wp_region_U 8 [3, 4, 5, 6, 12] [0, 1, 2, 3, 4] (fun a0 HA0 => ?_)
 have oe1 := ev HA0 1 rfl
 refine QSeq.pure rfl (.pointer (some ⟨w.heap.size, 37, none⟩)) (fun E => ex_field rfl Try.underlying52 rfl (by kernel_rfl) (E.v oe1)) ?_
 refine QSeq.pure rfl _ (fun E => ex_load1 rfl Try.underlying50 rfl (E.d 0 0) (Cs.post1 (pre := []) (mid := x.c.cells) (post := [.slice ao x.l.length cap]) (m := 37) (k := 0) HB1.out (Cm.len HOK.out.2.1) rfl rfl)) ?_
 refine QSeq.call rfl rfl Try.func72 (Cut_St _ _ x.l 5 _ Hx1.out (by intro k h1; have hb := HBT.out k h1; omega) (by omega)) (fun E => args2 (E.d 1 0) rfl) ?_
 rintro e u1_2 ⟨v', rfl, qout, hm⟩
 obtain ⟨ao', cap', rfl⟩ := qout.shape
 refine ⟨_, rfl, ?_⟩
 have Hx2 := hid (qout.widen (R' := (fun k => (New w1 u1_2 k))) (E' := (fun k => (R2 k))) (fun _ h => h) (fun _ h => h))
 have zu1_2 := hm.size
 have Cx3 := hid (show Mod (fun _ => False) w1 u1_2 from hm)
 clear hm
 clear qout
 refine QSeq.pure rfl (.pointer (some ⟨w.heap.size, 37, none⟩)) (fun E => ex_field rfl Try.underlying52 rfl (by kernel_rfl) (E.v oe1)) ?_
 refine QSeq.go fun act E => ?_
 refine qc_store rfl (wanted_none rfl) rfl (HB1.out.mod Cx3.out (fun h => h)) (off := 37) (vs := [Value.slice ao' (x.l.take 5).length cap']) (by kernel_rfl) one1 (by simp [Ce.cells, Cm.len HOK.out.2.1]) (E.d 3 0) (ec (E.d 2 1)) ?_
 intro u1_4 qc0 hm
 have qB1 := qc0.eqv (b := ((x.c.cells ++ [Value.slice ao' (x.l.take 5).length cap']) : List Value).toArray) (lay_l x.c _ _ HOK.out.2.1)
 clear qc0
 have Hx4 := hid qB1
 have zu1_4 := hm.size
 have HMu1_4 := hid hm
 have Cx5 := hid (Mod.goS (S' := (fun k => (k = w.heap.size))) Cx3.out hm (fun _ h => h.elim) (by intro k h0 h2; exact h2))
 clear hm Cx3
 clear act E qB1 HB1
 have Hx6 := hid (Hx2.out.mod HMu1_4.out (by intro k h1 h2; omega) (sB HBT))
 clear Hx2 HMu1_4
 refine QSeq.nil (t' := [_, _, _, _, _]) rfl ?_
 obtain rfl := HA0.out
 clear HA0 oe1
 simp only [pz, Act.put, List.setIfInBounds_toArray, List.set_cons_zero, List.set_cons_succ, List.set_nil]
 go_upto_region 2 with (fail)
 refine wp_region_U 8 [7, 9] [0, 1] (fun a0 HA0 => ?_)
 have oe1 := ev HA0 1 rfl
 have oe2 := ev HA0 2 rfl
 refine QSeq.pure rfl _ (fun E => ex_loadA rfl Try.underlying52 rfl (off := 0) (cs := x.c.cells ++ [Value.slice ao' (x.l.take 5).length cap']) (by rw [List.length_append, Cm.len HOK.out.2.1]; exact size_ce) (E.v oe1) (Cs.whole Hx4.out)) ?_
 refine QSeq.go fun act E => ?_
 refine qc_store rfl (wanted_none rfl) rfl (HB2.out.mod Cx5.out (by intro h2; omega)) (off := 0) (vs := (x.c.cells ++ [Value.slice ao' (x.l.take 5).length cap'])) (by rw [List.length_append, Cm.len HOK.out.2.1]; exact size_ce) (one_ce _ _ rfl) (by simp [Cm.len HOK.out.2.1]) (E.v oe2) (ec (E.d 0 0)) ?_
 intro u2_1 qc0 hm
 have qB2 := qc0.eqv (b := ((x.c.cells ++ [Value.slice ao' (x.l.take 5).length cap']) : List Value).toArray) (lay_whole _ _ (by simp [Cm.len HOK.out.2.1]))
 clear qc0
 have Hx7 := hid qB2
 have zu2_1 := hm.size
 have Cx8 := hid (show Mod (fun k => (k = w.heap.size + 1)) u1_4 u2_1 from hm)
 clear hm
 clear act E qB2 HB2
 refine QSeq.nil (t' := [_, _]) rfl ?_
 obtain rfl := HA0.out
 clear HA0 oe1 oe2
 simp only [pz, Act.put, List.setIfInBounds_toArray, List.set_cons_zero, List.set_cons_succ, List.set_nil]
 go_wp2
 have hq := (Hx6.out.mod Cx8.out (by intro k h1 h2; omega) (sB HBT))
 refine bodyPost_ret (results_cellA rfl _ _ (w.heap.size + 1) (x.c.cells ++ [Value.slice ao' (x.l.take 5).length cap']) rfl (fun k u hu => by rw [Hx7.out.cell]; simpa using hu) Try.underlying52 rfl (by rw [List.length_append, Cm.len HOK.out.2.1]; exact size_ce)) rfl ⟨_, rfl, ⟨_, rfl, HOK.out, hq.rd.widen ?_⟩, ((HM0.out.trans Cx5.out (by intro k h1 h2; omega)).trans Cx8.out (by intro k h1 h2; omega))⟩
 intro k h
 (try dsimp only at h ⊢)
 rcases h with h | h
 ·right; omega
 ·exact Or.inl h
set_option maxHeartbeats 4000000 in
theorem LPromise_c : CutR PmR 23 cutPm := by
 intro R2 x cs w hx hB2
 obtain ⟨v_l, rfl, hok, hs0⟩ := hx
 obtain ⟨ao, cap, rfl⟩ := hs0.shape
 have HS := Lib.hid hs0
 have HBT := Lib.hid hB2
 have HOK := Lib.hid hok
 clear hs0 hB2 hok
 go_enter Try.func23, Try.ntmps23
 go_upto_region 1 with (fail)
 obtain ⟨w1, hw1⟩ : ∃ zz, zz = ((w.alloc (.cells (x.cells (.slice ao x.l.length cap) : List Value).toArray 55)).alloc (.cells #[.int .i64 0, .int .i64 0, .int .u64 0, .slice none 0 0, .int .i64 0, .int .i64 0] 55)) := ⟨_, rfl⟩
 change Code.wp _ _ _ _ ((w.alloc (.cells (x.cells (.slice ao x.l.length cap) : List Value).toArray 55)).alloc (.cells #[.int .i64 0, .int .i64 0, .int .u64 0, .slice none 0 0, .int .i64 0, .int .i64 0] 55))
 rw [← hw1]
 have HB1 := hid (show Cs w1 (w.heap.size) (x.cells (.slice ao x.l.length cap) : List Value).toArray 55 by rw [hw1]; exact (Cs.new _ _ _).alloc _)
 have HB2 := hid (show Cs w1 (w.heap.size + 1) #[.int .i64 0, .int .i64 0, .int .u64 0, .slice none 0 0, .int .i64 0, .int .i64 0] 55 by rw [hw1]; exact Cs_newN _ _ _ (by simp))
 have hm : Mod (fun _ => False) w w1 := by rw [hw1]; exact ((Mod.refl _ _).alloc _).alloc _
 have HM0 := hid (show Mod (fun _ => False) w w1 from hm.mono (fun _ _ h => h.elim))
 have hs1 : w1.heap.size = w.heap.size + 2 := by rw [hw1]; simp
 have Hx1 := hid (HS.out.mod hm (fun _ _ h => h))
 clear HS
 clear hw1 hm
 go_wp2
 go_loopw [3, 4] (fun ta ti wr => ∃ k : Nat, ti = .int .i64 (k : Int) ∧ k ≤ x.l.length ∧ k ≤ 3 ∧ w1.heap.size ≤ wr.heap.size ∧ OwS CeR 52 (fun b => w1.heap.size ≤ b ∧ b < wr.heap.size) (fun b => R2 b ∨ (w1.heap.size ≤ b ∧ b < wr.heap.size)) wr ta ((x.l.take k).map cutCe) ∧ RdS CeR R2 wr (.slice ao x.l.length cap) x.l ∧ Cs wr (w.heap.size) (x.cells (.slice ao x.l.length cap) : List Value).toArray 55 ∧ Cs wr (w.heap.size + 1) #[.int .i64 0, .int .i64 0, .int .u64 0, .slice none 0 0, .int .i64 0, .int .i64 0] 55 ∧ Mod (fun _ => False) w wr) (fun _ ti _ => x.l.length - (intOf ti).toNat)
 case atStart => exact ⟨0, rfl, Nat.zero_le _, Nat.zero_le _, Nat.le_refl _, OwS.nil _ _ _ _ _, Hx1.out, HB1.out, HB2.out, HM0.out⟩
 case round =>
  obtain ⟨k1, rfl, hk, hkN, hz, ha, hk_0, hk_1, hk_2, hm⟩ := hrel
  obtain ⟨wl1, rfl⟩ : ∃ x, x = wr := ⟨_, rfl⟩
  obtain ⟨aol1, capl1, rfl⟩ := ha.shape
  have HAL1 := Lib.hid ha
  have HKL1_0 := Lib.hid hk_0
  have HKL1_1 := Lib.hid hk_1
  have HKL1_2 := Lib.hid hk_2
  have HML1 := Lib.hid hm
  clear ha hm hk_0 hk_1 hk_2 Hx1 HB1 HB2 HM0
  by_cases hlt1 : k1 < x.l.length ∧ k1 < 3
  ·obtain ⟨hlt1, hlN1⟩ := hlt1
   go_upto_region 3 with (fail)
   refine wp_region_U 28 [5, 6, 7, 8, 9, 10, 11, 12, 13] [0, 1, 2, 3, 4, 5, 6, 7, 8] (fun a0 HA0 => ?_)
   have oe1 := ev HA0 1 rfl
   have oe4 := ev HA0 4 rfl
   refine QSeq.pure rfl _ (fun E => ex_move rfl (E.v oe4)) ?_
   refine QSeq.pure rfl (.pointer (some ⟨w.heap.size, 3, none⟩)) (fun E => ex_field rfl Try.underlying55 rfl (by kernel_rfl) (E.v oe1)) ?_
   refine QSeq.pure rfl _ (fun E => ex_load1 rfl Try.underlying53 rfl (E.d 1 0) (Cs.lit1 HKL1_1.out rfl)) ?_
   refine QSeq.pure rfl (.int .i64 x.l.length) (fun E => ex_lenS rfl (E.d 2 0) Try.underlying53) ?_
   refine QSeq.pure rfl (.bool true) (fun E => ex_binE rfl (E.d 0 3) (E.d 3 0) (guard_ints _ _ _ _ _ _) (run_lss_i _ _ _ Try.underlying3) (congrArg Value.bool (decide_eq_true (by omega)))) ?_
   refine QSeq.pure rfl _ (fun E => ex_move rfl (E.d 4 0)) ?_
   refine QSeq.pureG rfl (.int .i64 ((k1 : Nat) : Int)) (fun E => ((wanted_of rfl rfl (E.sz 10 (by decide)) (E.d 5 0)).trans rfl)) (fun E => ex_move rfl (E.v oe4)) ?_
   refine QSeq.pureG rfl (.bool true) (fun E => ((wanted_of rfl rfl (E.sz 10 (by decide)) (E.d 5 1)).trans rfl)) (fun E => ex_binE rfl (E.d 6 0) rfl (guard_ints _ _ _ _ _ _) (run_lss_i _ _ _ Try.underlying3) (congrArg Value.bool (decide_eq_true (by omega)))) ?_
   refine QSeq.pure rfl (.bool true) (fun E => ex_pick rfl (E.d 5 2) (E.d 7 0) rfl) ?_
   refine QSeq.nil (t' := [_, _, _, _, _, _, _, _, _]) rfl ?_
   obtain rfl := HA0.out
   clear HA0 oe1 oe4
   simp only [pz, Act.put, List.setIfInBounds_toArray, List.set_cons_zero, List.set_cons_succ]
   have hat := HKL1_0.out.at hlt1
   obtain ⟨g1, o1, cs1, eao, hrg, hrd, hcs⟩ := hat
   subst eao
   have hcl : cs1.length = 38 := CeR.len hrd
   have HCL1 := Lib.hid hcl
   have HAT1 := hid (show CellsAt R2 wl1 g1 (o1 + k1 * 38) cs1 from ⟨hrg, hcs⟩)
   have HRD1 := Lib.hid hrd
   have HOC1 := hid (CeR.one hrd)
   clear hcl hcs hrd hrg
   have HE1 : Hid (((x.l.take k1).map cutCe) ++ [cutCe x.l[k1]] = (x.l.take (k1 + 1)).map cutCe) := hid (by rw [List.take_succ_eq_append_getElem hlt1, List.map_append]; rfl)
   have HLN1 : Hid (((x.l.take k1).map cutCe).length = k1) := hid (by rw [List.length_map, List.length_take]; omega)
   go_upto_region 5 with (fail)
   refine wp_region_U 28 [16, 17, 18, 19, 20, 21, 22, 23, 24, 3] [0, 1, 2, 3, 4, 5, 6, 7, 8, 9] (fun a0 HA0 => ?_)
   have oe1 := ev HA0 1 rfl
   have oe3 := ev HA0 3 rfl
   have oe4 := ev HA0 4 rfl
   refine QSeq.pure rfl _ (fun E => ex_move rfl (E.y 9 oe3)) ?_
   refine QSeq.pure rfl (.pointer (some ⟨w.heap.size, 3, none⟩)) (fun E => ex_field rfl Try.underlying55 rfl (by kernel_rfl) (E.v oe1)) ?_
   refine QSeq.pure rfl _ (fun E => ex_load1 rfl Try.underlying53 rfl (E.d 1 0) (Cs.lit1 HKL1_1.out rfl)) ?_
   refine QSeq.pure rfl _ (fun E => ex_move rfl (E.v oe4)) ?_
   refine QSeq.pure rfl (.pointer (some ⟨g1, o1 + k1 * 38, none⟩)) (fun E => ex_idxS (i := k1) (s := 38) rfl Try.underlying53 (by kernel_rfl) (E.d 2 1) (E.d 3 0) hlt1) ?_
   refine QSeq.pure rfl _ (fun E => ex_loadA rfl Try.underlying52 rfl (off := o1 + k1 * 38) (cs := cs1) (by rw [HCL1.out]; kernel_rfl) (E.d 4 0) (fun j u hu => (HAT1.out).2 j u hu)) ?_
   refine QSeq.call rfl rfl Try.func21 (LCert_c _ _ _ _ HRD1.out (by intro k h1; have hb := HBT.out k h1; omega)) (fun E => args1 (E.d 5 0)) ?_
   rintro e u5_6 ⟨cs', rfl, qel, hm⟩
   refine ⟨_, rfl, ?_⟩
   have Hx2 := hid (qel.widen (R' := (fun k => (R2 k) ∨ (New wl1 u5_6 k))) (fun _ h => h))
   have zu5_6 := hm.size
   have Cx3 := hid (show Mod (fun _ => False) wl1 u5_6 from hm)
   clear hm
   clear qel HRD1
   refine QSeq.go fun act E => ?_
   refine qc_buildS (e := 52) (cs := cs') (zc := [.int .i64 0, .int .i64 0, .int .u8 0, .int .u8 0, .int .u8 0, .int .u8 0, .int .u8 0, .int .u8 0, .int .u8 0, .int .u8 0, .int .u8 0, .int .u8 0, .int .u8 0, .int .u8 0, .int .u8 0, .int .u8 0, .int .u8 0, .int .u8 0, .int .u8 0, .int .u8 0, .int .u8 0, .int .u8 0, .int .u8 0, .int .u8 0, .int .u8 0, .int .u8 0, .int .u8 0, .int .u8 0, .int .u8 0, .int .u8 0, .int .u8 0, .int .u8 0, .int .u8 0, .int .u8 0, .int .i64 0, .int .i64 0, .int .i64 0, .slice none 0 0]) (sz := 38) rfl (wanted_none rfl) rfl Try.underlying53 (by kernel_rfl) rfl (by decide) (by decide) (E.d 6 0) (CeR.len Hx2.out) ?_
   intro u5_7 qrow hm
   have zl5_7 := qrow.lt
   have Hx4 := hid qrow
   have zu5_7 := hm.size
   have HMu5_7 := hid hm
   have Cx5 := hid (Cx3.out.goE hm)
   clear hm Cx3
   clear act E qrow
   refine QSeq.go fun act E => ?_
   refine qc_appS (A := CeR) (e := 52) rfl (wanted_none rfl) rfl (.agg #[.int .i64 0, .int .i64 0, .int .u8 0, .int .u8 0, .int .u8 0, .int .u8 0, .int .u8 0, .int .u8 0, .int .u8 0, .int .u8 0, .int .u8 0, .int .u8 0, .int .u8 0, .int .u8 0, .int .u8 0, .int .u8 0, .int .u8 0, .int .u8 0, .int .u8 0, .int .u8 0, .int .u8 0, .int .u8 0, .int .u8 0, .int .u8 0, .int .u8 0, .int .u8 0, .int .u8 0, .int .u8 0, .int .u8 0, .int .u8 0, .int .u8 0, .int .u8 0, .int .u8 0, .int .u8 0, .int .i64 0, .int .i64 0, .int .i64 0, .slice none 0 0]) 96 Try.underlying53 info_Ce (by rfl) (of_decide_eq_true (by kernel_rfl)) (E.d 0 7) (E.d 7 0) ((HAL1.out.mod Cx5.out (fun _ _ h => h) (fun _ _ h => h))) (RdS.single (R := (fun k => (R2 k) ∨ (New wl1 u5_6 k) ∨ (k = u5_6.heap.size))) Hx4.out ((Hx2.out.mod HMu5_7.out (fun _ _ h => h)).widen (by intro k h1; rcases h1 with h1 | h1 <;> first | omega | exact h1.elim | exact Or.inl h1 | exact Or.inr (Or.inl h1) | exact Or.inr (Or.inr (h1)))) (by first | exact Or.inr rfl | exact Or.inr (Or.inr rfl) | (right; omega))) (by intro k h1 h2; rcases h1 with h1 | h1 | h1 <;> first | omega | (have hb := HBT.out k h1; omega)) (by rw [HLN1.out]; simp only [List.length_cons, List.length_nil]; omega) (by rw [HLN1.out, maxLen_val]; simp only [List.length_cons, List.length_nil]; omega) ?_
   intro ao4 cap4 u5_8 qacc hm
   have Hx6 := hid (qacc.widen (R' := (fun k => (New w1 wl1 k) ∨ (New u5_7 u5_8 k))) (E' := (fun k => (R2 k) ∨ (New w1 wl1 k) ∨ (New wl1 u5_6 k) ∨ (k = u5_6.heap.size))) (fun _ h => h) (by intro k h1; rcases h1 with (h1 | h1) | (h1 | h1 | h1) <;> first | omega | exact h1.elim | exact Or.inl h1 | exact Or.inr (Or.inl h1) | exact Or.inr (Or.inr (Or.inl h1)) | exact Or.inr (Or.inr (Or.inr (h1)))))
   have zu5_8 := hm.size
   have HMu5_8 := hid hm
   have Cx7 := hid (Mod.goS (S' := (fun k => (New w1 wl1 k))) Cx5.out hm (fun _ h => h.elim) (by intro k h0 h2; exact h2))
   clear hm Cx5
   clear act E qacc HAL1
   refine QSeq.pure rfl _ (fun E => ex_assign rfl (E.d 8 0)) ?_
   have Hx8 := hid ((Hx2.out.mod HMu5_7.out (fun _ _ h => h)).mod HMu5_8.out (by intro k h1 h2; rcases h1 with h1 | h1 <;> first | omega | (have hb := HBT.out k h1; omega)))
   have Hx9 := hid (Hx4.out.mod HMu5_8.out (by intro h2; omega))
   clear Hx2 Hx4 HMu5_7 HMu5_8
   refine QSeq.nil (t' := [_, _, _, _, _, _, _, _, _, _]) rfl ?_
   obtain rfl := HA0.out
   clear HA0 oe1 oe3 oe4
   simp only [pz, Act.put, List.setIfInBounds_toArray, List.set_cons_zero, List.set_cons_succ]
   have hq := Hx6.out
   rw [HE1.out] at hq
   have HQ1 := Lib.hid hq
   clear hq
   go_wp2
   go_roundw
   case rel => exact ⟨k1 + 1, by go_num, by omega, by omega, by omega, (HQ1.out.widen (by intro b h1; omega) (by intro k h1; rcases h1 with h1 | h1 | h1 | h1 <;> first | omega | exact h1.elim | exact Or.inl h1 | exact Or.inr (h1))), (HKL1_0.out.mod Cx7.out (sN HBT)), (HKL1_1.out.mod Cx7.out (by intro h2; omega)), (HKL1_2.out.mod Cx7.out (by intro h2; omega)), (HML1.out.trans Cx7.out (by intro k h1 h2; omega))⟩
   case measure => simp [intOf]; omega
  ·skip
   obtain ⟨bA1, hbA1⟩ : ∃ b : Bool, b = decide (((k1 : Nat) : Int) < (x.l.length : Int)) := ⟨_, rfl⟩
   obtain ⟨bB1, hbB1⟩ : ∃ b : Bool, b = decide (((k1 : Nat) : Int) < 3) := ⟨_, rfl⟩
   go_upto_region 3 with (fail)
   refine wp_region_U 28 [5, 6, 7, 8, 9, 10, 11, 12, 13] [0, 1, 2, 3, 4, 5, 6, 7, 8] (fun a0 HA0 => ?_)
   have oe1 := ev HA0 1 rfl
   have oe4 := ev HA0 4 rfl
   refine QSeq.pure rfl _ (fun E => ex_move rfl (E.v oe4)) ?_
   refine QSeq.pure rfl (.pointer (some ⟨w.heap.size, 3, none⟩)) (fun E => ex_field rfl Try.underlying55 rfl (by kernel_rfl) (E.v oe1)) ?_
   refine QSeq.pure rfl _ (fun E => ex_load1 rfl Try.underlying53 rfl (E.d 1 0) (Cs.lit1 HKL1_1.out rfl)) ?_
   refine QSeq.pure rfl (.int .i64 x.l.length) (fun E => ex_lenS rfl (E.d 2 0) Try.underlying53) ?_
   refine QSeq.pure rfl (.bool bA1) (fun E => ex_binE rfl (E.d 0 3) (E.d 3 0) (guard_ints _ _ _ _ _ _) (run_lss_i _ _ _ Try.underlying3) (congrArg Value.bool hbA1.symm)) ?_
   refine QSeq.pure rfl _ (fun E => ex_move rfl (E.d 4 0)) ?_
   refine QSeq.may (b := bA1) rfl (.int .i64 ((k1 : Nat) : Int)) (fun E => ((wanted_of rfl rfl (E.sz 10 (by decide)) (E.d 5 0)).trans (beq_t _))) (fun E hb => ex_move rfl (E.v oe4)) ?_
   intro v3_6 hw
   have hv3_6 := hid hw
   clear hw
   refine QSeq.may (b := bA1) rfl (.bool bB1) (fun E => ((wanted_of rfl rfl (E.sz 10 (by decide)) (E.d 5 1)).trans (beq_t _))) (fun E hb => ex_binE rfl ((E.q 6 0 hv3_6.out).1 hb) rfl (guard_ints _ _ _ _ _ _) (run_lss_i _ _ _ Try.underlying3) (congrArg Value.bool hbB1.symm)) ?_
   intro v3_7 hw
   have hv3_7 := hid hw
   clear hw
   refine QSeq.pure rfl (.bool (bA1 && bB1)) (fun E => ex_pickE rfl (E.d 5 2) rfl rfl (and_val fun hb => (E.q 7 0 hv3_7.out).1 hb)) ?_
   clear hv3_6 hv3_7
   refine QSeq.nil (t' := [_, _, _, _, _, _, _, _, _]) rfl ?_
   obtain rfl := HA0.out
   clear HA0 oe1 oe4
   simp only [pz, Act.put, List.setIfInBounds_toArray, List.set_cons_zero, List.set_cons_succ]
   rw [show (bA1 && bB1) = false by rw [hbA1, hbB1, Bool.and_eq_false_iff, decide_eq_false_iff_not, decide_eq_false_iff_not]; omega]
   have HTK1 := hid (show x.l.take k1 = x.l.take 3 from take_two (by omega) (by omega))
   go_upto_region 6 with (fail)
   refine wp_region_U 28 [25, 26, 30] [0, 1, 2] (fun a0 HA0 => ?_)
   have oe1 := ev HA0 1 rfl
   have oe3 := ev HA0 3 rfl
   refine QSeq.pure rfl _ (fun E => ex_move rfl (E.v oe3)) ?_
   refine QSeq.pure rfl (.pointer (some ⟨w.heap.size, 3, none⟩)) (fun E => ex_field rfl Try.underlying55 rfl (by kernel_rfl) (E.v oe1)) ?_
   refine QSeq.go fun act E => ?_
   refine qc_store rfl (wanted_none rfl) rfl HKL1_1.out (off := 3) (vs := [Value.slice aol1 ((x.l.take k1).map cutCe).length capl1]) (by kernel_rfl) one1 (by simp) (E.d 1 0) (ec (E.d 0 1)) ?_
   intro u6_2 qc0 hm
   have qB1 := qc0.eqv (b := #[.int .i64 x.rp, .int .i64 x.ep, .int .u64 (x.fl : Nat), Value.slice aol1 ((x.l.take k1).map cutCe).length capl1, .int .i64 x.sb, .int .i64 x.mr]) rfl
   clear qc0
   have Hx10 := hid qB1
   have zu6_2 := hm.size
   have Cx11 := hid (show Mod (fun k => (k = w.heap.size)) wl1 u6_2 from hm)
   clear hm
   clear act E qB1 HKL1_1
   refine QSeq.nil (t' := [_, _, _]) rfl ?_
   obtain rfl := HA0.out
   clear HA0 oe1 oe3
   simp only [pz, Act.put, List.setIfInBounds_toArray, List.set_cons_zero, List.set_cons_succ, List.set_nil]
   go_upto_region 7 with (fail)
   refine wp_region_U 28 [27, 29] [0, 1] (fun a0 HA0 => ?_)
   have oe1 := ev HA0 1 rfl
   have oe2 := ev HA0 2 rfl
   refine QSeq.pure rfl _ (fun E => ex_loadA rfl Try.underlying55 rfl (off := 0) (cs := [.int .i64 x.rp, .int .i64 x.ep, .int .u64 (x.fl : Nat), Value.slice aol1 ((x.l.take k1).map cutCe).length capl1, .int .i64 x.sb, .int .i64 x.mr]) (by kernel_rfl) (E.v oe1) (Cs.whole Hx10.out)) ?_
   refine QSeq.go fun act E => ?_
   refine qc_store rfl (wanted_none rfl) rfl (HKL1_2.out.mod Cx11.out (by intro h2; omega)) (off := 0) (vs := [.int .i64 x.rp, .int .i64 x.ep, .int .u64 (x.fl : Nat), Value.slice aol1 ((x.l.take k1).map cutCe).length capl1, .int .i64 x.sb, .int .i64 x.mr]) (by kernel_rfl) (by intro u hu; simp at hu; rcases hu with rfl | rfl | rfl | rfl | rfl | rfl <;> rfl) (by simp) (E.v oe2) (ec (E.d 0 0)) ?_
   intro u7_1 qc0 hm
   have qB2 := qc0.eqv (b := #[.int .i64 x.rp, .int .i64 x.ep, .int .u64 (x.fl : Nat), Value.slice aol1 ((x.l.take k1).map cutCe).length capl1, .int .i64 x.sb, .int .i64 x.mr]) rfl
   clear qc0
   have Hx12 := hid qB2
   have zu7_1 := hm.size
   have Cx13 := hid (show Mod (fun k => (k = w.heap.size + 1)) u6_2 u7_1 from hm)
   clear hm
   clear act E qB2 HKL1_2
   refine QSeq.nil (t' := [_, _]) rfl ?_
   obtain rfl := HA0.out
   clear HA0 oe1 oe2
   simp only [pz, Act.put, List.setIfInBounds_toArray, List.set_cons_zero, List.set_cons_succ, List.set_nil]
   go_wp2
   have hq := ((HAL1.out.mod Cx11.out (by intro k h1 h2; omega) (by intro k h1 h2; rcases h1 with h1 | h1 <;> first | omega | (have hb := HBT.out k h1; omega))).mod Cx13.out (by intro k h1 h2; omega) (by intro k h1 h2; rcases h1 with h1 | h1 <;> first | omega | (have hb := HBT.out k h1; omega)))
   refine bodyPost_ret (results_cellA rfl _ _ (w.heap.size + 1) ([.int .i64 x.rp, .int .i64 x.ep, .int .u64 (x.fl : Nat), Value.slice aol1 ((x.l.take k1).map cutCe).length capl1, .int .i64 x.sb, .int .i64 x.mr]) rfl (fun k u hu => by rw [Hx12.out.cell]; simpa using hu) Try.underlying55 rfl (by kernel_rfl)) rfl ⟨_, rfl, ⟨_, rfl, HOK.out, ?_⟩, ((HML1.out.trans Cx11.out (by intro k h1 h2; omega)).trans Cx13.out (by intro k h1 h2; omega))⟩
   rw [show (cutPm x).l = (x.l.take k1).map cutCe from congrArg (List.map cutCe) HTK1.out.symm]
   refine hq.rd.widen ?_
   intro k h
   (try dsimp only at h ⊢)
   rcases h with h | h | h
   ·right; omega
   ·exact Or.inl h
   ·right; omega
end Go.Proofs.Ytknpapcfhnhheaa

/- Batches that are cut. -/
namespace Go.Proofs.Ytknpapcfhnhheaa
open Go Go.RowKit Go.Gv


def cutOp (x : Op) : Op := { x with pl := x.pl.take 260 }
def cutTb (x : Tb) : Tb := { x with l := x.l.take 5 }
def cutBa (x : Ba) : Ba := { x with ps := (x.ps.take 4).map cutPm, os := (x.os.take 4).map cutOp, ts := (x.ts.take 4).map cutTb }
theorem RdR_len {R : Nat → Prop} {N : Nat} {w : World} {v : Value} {bs : List Int} (h : RdR R N w v bs) : RdR R bs.length w v bs := ⟨h.1, h.2.1, Nat.le_refl _⟩
theorem op_len (x : Op) (v : Value) (h : x.nc.length = 32) : (x.cells v).length = 34 := by simp [Op.cells, h]
theorem lay_pl (x y : Op) (u v : Value) (h : y.ix = x.ix ∧ y.nc = x.nc) : lay (x.cells u).toArray 1 [v] = (y.cells v).toArray := by
 obtain ⟨h1, h2⟩ := h
 simp [lay, Op.cells, h1, h2]
theorem lay_tl (x y : Tb) (u v : Value) (h : y.ix = x.ix) : lay (x.cells u).toArray 1 [v] = (y.cells v).toArray := by
 simp [lay, Tb.cells, h]
set_option maxHeartbeats 8000000 in
theorem LBatch_c : CutR BaR 25 cutBa := by
 intro R2 x cs w hx hB2
 obtain ⟨v_ps, v_os, v_ts, rfl, hok, hs0, hs1, hs2⟩ := hx
 obtain ⟨ao_ps, cap_ps, rfl⟩ := hs0.shape
 obtain ⟨ao_os, cap_os, rfl⟩ := hs1.shape
 obtain ⟨ao_ts, cap_ts, rfl⟩ := hs2.shape
 have HS0 := Lib.hid hs0
 have HS1 := Lib.hid hs1
 have HS2 := Lib.hid hs2
 have HBT := Lib.hid hB2
 have HOK := Lib.hid hok
 clear hs0 hs1 hs2 hB2 hok
 go_enter Try.func25, Try.ntmps25
 go_upto_region 1 with (fail)
 obtain ⟨w1, hw1⟩ : ∃ zz, zz = ((w.alloc (.cells (x.cells (.slice ao_ps x.ps.length cap_ps) (.slice ao_os x.os.length cap_os) (.slice ao_ts x.ts.length cap_ts) : List Value).toArray 60)).alloc (.cells #[.int .i64 0, .int .u64 0, .slice none 0 0, .slice none 0 0, .slice none 0 0] 60)) := ⟨_, rfl⟩
 change Code.wp _ _ _ _ ((w.alloc (.cells (x.cells (.slice ao_ps x.ps.length cap_ps) (.slice ao_os x.os.length cap_os) (.slice ao_ts x.ts.length cap_ts) : List Value).toArray 60)).alloc (.cells #[.int .i64 0, .int .u64 0, .slice none 0 0, .slice none 0 0, .slice none 0 0] 60))
 rw [← hw1]
 have HB1 := hid (show Cs w1 (w.heap.size) (x.cells (.slice ao_ps x.ps.length cap_ps) (.slice ao_os x.os.length cap_os) (.slice ao_ts x.ts.length cap_ts) : List Value).toArray 60 by rw [hw1]; exact (Cs.new _ _ _).alloc _)
 have HB2 := hid (show Cs w1 (w.heap.size + 1) #[.int .i64 0, .int .u64 0, .slice none 0 0, .slice none 0 0, .slice none 0 0] 60 by rw [hw1]; exact Cs_newN _ _ _ (by simp))
 have hm : Mod (fun _ => False) w w1 := by rw [hw1]; exact ((Mod.refl _ _).alloc _).alloc _
 have HM0 := hid (show Mod (fun _ => False) w w1 from hm.mono (fun _ _ h => h.elim))
 have hs1 : w1.heap.size = w.heap.size + 2 := by rw [hw1]; simp
 have Hx1 := hid (HS0.out.mod hm (fun _ _ h => h))
 clear HS0
 have Hx2 := hid (HS1.out.mod hm (fun _ _ h => h))
 clear HS1
 have Hx3 := hid (HS2.out.mod hm (fun _ _ h => h))
 clear HS2
 clear hw1 hm
 go_wp2
 go_loopw [3, 4] (fun ta ti wr => ∃ k : Nat, ti = .int .i64 (k : Int) ∧ k ≤ x.ps.length ∧ k ≤ 4 ∧ w1.heap.size ≤ wr.heap.size ∧ OwS PmR 55 (fun b => w1.heap.size ≤ b ∧ b < wr.heap.size) (fun b => R2 b ∨ (w1.heap.size ≤ b ∧ b < wr.heap.size)) wr ta ((x.ps.take k).map cutPm) ∧ RdS PmR R2 wr (.slice ao_ps x.ps.length cap_ps) x.ps ∧ RdS OpR R2 wr (.slice ao_os x.os.length cap_os) x.os ∧ RdS TbR R2 wr (.slice ao_ts x.ts.length cap_ts) x.ts ∧ Cs wr (w.heap.size) (x.cells (.slice ao_ps x.ps.length cap_ps) (.slice ao_os x.os.length cap_os) (.slice ao_ts x.ts.length cap_ts) : List Value).toArray 60 ∧ Cs wr (w.heap.size + 1) #[.int .i64 0, .int .u64 0, .slice none 0 0, .slice none 0 0, .slice none 0 0] 60 ∧ Mod (fun _ => False) w wr) (fun _ ti _ => x.ps.length - (intOf ti).toNat)
 case atStart => exact ⟨0, rfl, Nat.zero_le _, Nat.zero_le _, Nat.le_refl _, OwS.nil _ _ _ _ _, Hx1.out, Hx2.out, Hx3.out, HB1.out, HB2.out, HM0.out⟩
 case round =>
  obtain ⟨k1, rfl, hk, hkN, hz, ha, hk_0, hk_1, hk_2, hk_3, hk_4, hm⟩ := hrel
  obtain ⟨wl1, rfl⟩ : ∃ x, x = wr := ⟨_, rfl⟩
  obtain ⟨aol1, capl1, rfl⟩ := ha.shape
  have HAL1 := Lib.hid ha
  have HKL1_0 := Lib.hid hk_0
  have HKL1_1 := Lib.hid hk_1
  have HKL1_2 := Lib.hid hk_2
  have HKL1_3 := Lib.hid hk_3
  have HKL1_4 := Lib.hid hk_4
  have HML1 := Lib.hid hm
  clear ha hm hk_0 hk_1 hk_2 hk_3 hk_4 Hx1 Hx2 Hx3 HB1 HB2 HM0
  by_cases hlt1 : k1 < x.ps.length ∧ k1 < 4
  ·obtain ⟨hlt1, hlN1⟩ := hlt1
   go_upto_region 3 with (fail)
   refine wp_region_U 86 [11, 12, 13, 14, 15, 16, 17, 18, 19] [0, 1, 2, 3, 4, 5, 6, 7, 8] (fun a0 HA0 => ?_)
   have oe1 := ev HA0 1 rfl
   have oe4 := ev HA0 4 rfl
   refine QSeq.pure rfl _ (fun E => ex_move rfl (E.v oe4)) ?_
   refine QSeq.pure rfl (.pointer (some ⟨w.heap.size, 2, none⟩)) (fun E => ex_field rfl Try.underlying60 rfl (by kernel_rfl) (E.v oe1)) ?_
   refine QSeq.pure rfl _ (fun E => ex_load1 rfl Try.underlying56 rfl (E.d 1 0) (Cs.lit1 HKL1_3.out rfl)) ?_
   refine QSeq.pure rfl (.int .i64 x.ps.length) (fun E => ex_lenS rfl (E.d 2 0) Try.underlying56) ?_
   refine QSeq.pure rfl (.bool true) (fun E => ex_binE rfl (E.d 0 3) (E.d 3 0) (guard_ints _ _ _ _ _ _) (run_lss_i _ _ _ Try.underlying3) (congrArg Value.bool (decide_eq_true (by omega)))) ?_
   refine QSeq.pure rfl _ (fun E => ex_move rfl (E.d 4 0)) ?_
   refine QSeq.pureG rfl (.int .i64 ((k1 : Nat) : Int)) (fun E => ((wanted_of rfl rfl (E.sz 16 (by decide)) (E.d 5 0)).trans rfl)) (fun E => ex_move rfl (E.v oe4)) ?_
   refine QSeq.pureG rfl (.bool true) (fun E => ((wanted_of rfl rfl (E.sz 16 (by decide)) (E.d 5 1)).trans rfl)) (fun E => ex_binE rfl (E.d 6 0) rfl (guard_ints _ _ _ _ _ _) (run_lss_i _ _ _ Try.underlying3) (congrArg Value.bool (decide_eq_true (by omega)))) ?_
   refine QSeq.pure rfl (.bool true) (fun E => ex_pick rfl (E.d 5 2) (E.d 7 0) rfl) ?_
   refine QSeq.nil (t' := [_, _, _, _, _, _, _, _, _]) rfl ?_
   obtain rfl := HA0.out
   clear HA0 oe1 oe4
   simp only [pz, Act.put, List.setIfInBounds_toArray, List.set_cons_zero, List.set_cons_succ]
   have hat := HKL1_0.out.at hlt1
   obtain ⟨g1, o1, cs1, eao, hrg, hrd, hcs⟩ := hat
   subst eao
   have hcl : cs1.length = 6 := PmR.len hrd
   have HCL1 := Lib.hid hcl
   have HAT1 := hid (show CellsAt R2 wl1 g1 (o1 + k1 * 6) cs1 from ⟨hrg, hcs⟩)
   have HRD1 := Lib.hid hrd
   have HOC1 := hid (PmR.one hrd)
   clear hcl hcs hrd hrg
   have HE1 : Hid (((x.ps.take k1).map cutPm) ++ [cutPm x.ps[k1]] = (x.ps.take (k1 + 1)).map cutPm) := hid (by rw [List.take_succ_eq_append_getElem hlt1, List.map_append]; rfl)
   have HLN1 : Hid (((x.ps.take k1).map cutPm).length = k1) := hid (by rw [List.length_map, List.length_take]; omega)
   go_upto_region 5 with (fail)
   refine wp_region_U 86 [22, 23, 24, 25, 26, 27, 28, 29, 30, 3] [0, 1, 2, 3, 4, 5, 6, 7, 8, 9] (fun a0 HA0 => ?_)
   have oe1 := ev HA0 1 rfl
   have oe3 := ev HA0 3 rfl
   have oe4 := ev HA0 4 rfl
   refine QSeq.pure rfl _ (fun E => ex_move rfl (E.y 9 oe3)) ?_
   refine QSeq.pure rfl (.pointer (some ⟨w.heap.size, 2, none⟩)) (fun E => ex_field rfl Try.underlying60 rfl (by kernel_rfl) (E.v oe1)) ?_
   refine QSeq.pure rfl _ (fun E => ex_load1 rfl Try.underlying56 rfl (E.d 1 0) (Cs.lit1 HKL1_3.out rfl)) ?_
   refine QSeq.pure rfl _ (fun E => ex_move rfl (E.v oe4)) ?_
   refine QSeq.pure rfl (.pointer (some ⟨g1, o1 + k1 * 6, none⟩)) (fun E => ex_idxS (i := k1) (s := 6) rfl Try.underlying56 (by kernel_rfl) (E.d 2 1) (E.d 3 0) hlt1) ?_
   refine QSeq.pure rfl _ (fun E => ex_loadA rfl Try.underlying55 rfl (off := o1 + k1 * 6) (cs := cs1) (by rw [HCL1.out]; kernel_rfl) (E.d 4 0) (fun j u hu => (HAT1.out).2 j u hu)) ?_
   refine QSeq.call rfl rfl Try.func23 (LPromise_c _ _ _ _ HRD1.out (by intro k h1; have hb := HBT.out k h1; omega)) (fun E => args1 (E.d 5 0)) ?_
   rintro e u5_6 ⟨cs', rfl, qel, hm⟩
   refine ⟨_, rfl, ?_⟩
   have Hx4 := hid (qel.widen (R' := (fun k => (R2 k) ∨ (New wl1 u5_6 k))) (fun _ h => h))
   have zu5_6 := hm.size
   have Cx5 := hid (show Mod (fun _ => False) wl1 u5_6 from hm)
   clear hm
   clear qel HRD1
   refine QSeq.go fun act E => ?_
   refine qc_buildS (e := 55) (cs := cs') (zc := [.int .i64 0, .int .i64 0, .int .u64 0, .slice none 0 0, .int .i64 0, .int .i64 0]) (sz := 6) rfl (wanted_none rfl) rfl Try.underlying56 (by kernel_rfl) rfl (by decide) (by decide) (E.d 6 0) (PmR.len Hx4.out) ?_
   intro u5_7 qrow hm
   have zl5_7 := qrow.lt
   have Hx6 := hid qrow
   have zu5_7 := hm.size
   have HMu5_7 := hid hm
   have Cx7 := hid (Cx5.out.goE hm)
   clear hm Cx5
   clear act E qrow
   refine QSeq.go fun act E => ?_
   refine qc_appS (A := PmR) (e := 55) rfl (wanted_none rfl) rfl (.agg #[.int .i64 0, .int .i64 0, .int .u64 0, .slice none 0 0, .int .i64 0, .int .i64 0]) 64 Try.underlying56 info_Pm (by rfl) (of_decide_eq_true (by kernel_rfl)) (E.d 0 7) (E.d 7 0) ((HAL1.out.mod Cx7.out (fun _ _ h => h) (fun _ _ h => h))) (RdS.single (R := (fun k => (R2 k) ∨ (New wl1 u5_6 k) ∨ (k = u5_6.heap.size))) Hx6.out ((Hx4.out.mod HMu5_7.out (fun _ _ h => h)).widen (by intro k h1; rcases h1 with h1 | h1 <;> first | omega | exact h1.elim | exact Or.inl h1 | exact Or.inr (Or.inl h1) | exact Or.inr (Or.inr (h1)))) (by first | exact Or.inr rfl | exact Or.inr (Or.inr rfl) | (right; omega))) (by intro k h1 h2; rcases h1 with h1 | h1 | h1 <;> first | omega | (have hb := HBT.out k h1; omega)) (by rw [HLN1.out]; simp only [List.length_cons, List.length_nil]; omega) (by rw [HLN1.out, maxLen_val]; simp only [List.length_cons, List.length_nil]; omega) ?_
   intro ao4 cap4 u5_8 qacc1 hm
   have Hx8 := hid (qacc1.widen (R' := (fun k => (New w1 wl1 k) ∨ (New u5_7 u5_8 k))) (E' := (fun k => (R2 k) ∨ (New w1 wl1 k) ∨ (New wl1 u5_6 k) ∨ (k = u5_6.heap.size))) (fun _ h => h) (by intro k h1; rcases h1 with (h1 | h1) | (h1 | h1 | h1) <;> first | omega | exact h1.elim | exact Or.inl h1 | exact Or.inr (Or.inl h1) | exact Or.inr (Or.inr (Or.inl h1)) | exact Or.inr (Or.inr (Or.inr (h1)))))
   have zu5_8 := hm.size
   have HMu5_8 := hid hm
   have Cx9 := hid (Mod.goS (S' := (fun k => (New w1 wl1 k))) Cx7.out hm (fun _ h => h.elim) (by intro k h0 h2; exact h2))
   clear hm Cx7
   clear act E qacc1 HAL1
   refine QSeq.pure rfl _ (fun E => ex_assign rfl (E.d 8 0)) ?_
   have Hx10 := hid ((Hx4.out.mod HMu5_7.out (fun _ _ h => h)).mod HMu5_8.out (by intro k h1 h2; rcases h1 with h1 | h1 <;> first | omega | (have hb := HBT.out k h1; omega)))
   have Hx11 := hid (Hx6.out.mod HMu5_8.out (by intro h2; omega))
   clear Hx4 Hx6 HMu5_7 HMu5_8
   refine QSeq.nil (t' := [_, _, _, _, _, _, _, _, _, _]) rfl ?_
   obtain rfl := HA0.out
   clear HA0 oe1 oe3 oe4
   simp only [pz, Act.put, List.setIfInBounds_toArray, List.set_cons_zero, List.set_cons_succ]
   have hq := Hx8.out
   rw [HE1.out] at hq
   have HQ1 := Lib.hid hq
   clear hq
   go_wp2
   go_roundw
   case rel => exact ⟨k1 + 1, by go_num, by omega, by omega, by omega, (HQ1.out.widen (by intro b h1; omega) (by intro k h1; rcases h1 with h1 | h1 | h1 | h1 <;> first | omega | exact h1.elim | exact Or.inl h1 | exact Or.inr (h1))), (HKL1_0.out.mod Cx9.out (sN HBT)), (HKL1_1.out.mod Cx9.out (sN HBT)), (HKL1_2.out.mod Cx9.out (sN HBT)), (HKL1_3.out.mod Cx9.out (by intro h2; omega)), (HKL1_4.out.mod Cx9.out (by intro h2; omega)), (HML1.out.trans Cx9.out (by intro k h1 h2; omega))⟩
   case measure => simp [intOf]; omega
  ·skip
   obtain ⟨bA1, hbA1⟩ : ∃ b : Bool, b = decide (((k1 : Nat) : Int) < (x.ps.length : Int)) := ⟨_, rfl⟩
   obtain ⟨bB1, hbB1⟩ : ∃ b : Bool, b = decide (((k1 : Nat) : Int) < 4) := ⟨_, rfl⟩
   go_upto_region 3 with (fail)
   refine wp_region_U 86 [11, 12, 13, 14, 15, 16, 17, 18, 19] [0, 1, 2, 3, 4, 5, 6, 7, 8] (fun a0 HA0 => ?_)
   have oe1 := ev HA0 1 rfl
   have oe4 := ev HA0 4 rfl
   refine QSeq.pure rfl _ (fun E => ex_move rfl (E.v oe4)) ?_
   refine QSeq.pure rfl (.pointer (some ⟨w.heap.size, 2, none⟩)) (fun E => ex_field rfl Try.underlying60 rfl (by kernel_rfl) (E.v oe1)) ?_
   refine QSeq.pure rfl _ (fun E => ex_load1 rfl Try.underlying56 rfl (E.d 1 0) (Cs.lit1 HKL1_3.out rfl)) ?_
   refine QSeq.pure rfl (.int .i64 x.ps.length) (fun E => ex_lenS rfl (E.d 2 0) Try.underlying56) ?_
   refine QSeq.pure rfl (.bool bA1) (fun E => ex_binE rfl (E.d 0 3) (E.d 3 0) (guard_ints _ _ _ _ _ _) (run_lss_i _ _ _ Try.underlying3) (congrArg Value.bool hbA1.symm)) ?_
   refine QSeq.pure rfl _ (fun E => ex_move rfl (E.d 4 0)) ?_
   refine QSeq.may (b := bA1) rfl (.int .i64 ((k1 : Nat) : Int)) (fun E => ((wanted_of rfl rfl (E.sz 16 (by decide)) (E.d 5 0)).trans (beq_t _))) (fun E hb => ex_move rfl (E.v oe4)) ?_
   intro v3_6 hw
   have hv3_6 := hid hw
   clear hw
   refine QSeq.may (b := bA1) rfl (.bool bB1) (fun E => ((wanted_of rfl rfl (E.sz 16 (by decide)) (E.d 5 1)).trans (beq_t _))) (fun E hb => ex_binE rfl ((E.q 6 0 hv3_6.out).1 hb) rfl (guard_ints _ _ _ _ _ _) (run_lss_i _ _ _ Try.underlying3) (congrArg Value.bool hbB1.symm)) ?_
   intro v3_7 hw
   have hv3_7 := hid hw
   clear hw
   refine QSeq.pure rfl (.bool (bA1 && bB1)) (fun E => ex_pickE rfl (E.d 5 2) rfl rfl (and_val fun hb => (E.q 7 0 hv3_7.out).1 hb)) ?_
   clear hv3_6 hv3_7
   refine QSeq.nil (t' := [_, _, _, _, _, _, _, _, _]) rfl ?_
   obtain rfl := HA0.out
   clear HA0 oe1 oe4
   simp only [pz, Act.put, List.setIfInBounds_toArray, List.set_cons_zero, List.set_cons_succ]
   rw [show (bA1 && bB1) = false by rw [hbA1, hbB1, Bool.and_eq_false_iff, decide_eq_false_iff_not, decide_eq_false_iff_not]; omega]
   have HTK1 := hid (show x.ps.take k1 = x.ps.take 4 from take_two (by omega) (by omega))
   go_wp2
   go_loopw [5, 6] (fun ta ti wr => ∃ k : Nat, ti = .int .i64 (k : Int) ∧ k ≤ x.os.length ∧ k ≤ 4 ∧ wl1.heap.size ≤ wr.heap.size ∧ OwS OpR 87 (fun b => wl1.heap.size ≤ b ∧ b < wr.heap.size) (fun b => R2 b ∨ (wl1.heap.size ≤ b ∧ b < wr.heap.size)) wr ta ((x.os.take k).map cutOp) ∧ RdS PmR R2 wr (.slice ao_ps x.ps.length cap_ps) x.ps ∧ RdS OpR R2 wr (.slice ao_os x.os.length cap_os) x.os ∧ RdS TbR R2 wr (.slice ao_ts x.ts.length cap_ts) x.ts ∧ Cs wr (w.heap.size) (x.cells (.slice ao_ps x.ps.length cap_ps) (.slice ao_os x.os.length cap_os) (.slice ao_ts x.ts.length cap_ts) : List Value).toArray 60 ∧ Cs wr (w.heap.size + 1) #[.int .i64 0, .int .u64 0, .slice none 0 0, .slice none 0 0, .slice none 0 0] 60 ∧ OwS PmR 55 (fun b => w1.heap.size ≤ b ∧ b < wl1.heap.size) (fun b => R2 b ∨ (w1.heap.size ≤ b ∧ b < wl1.heap.size)) wr (.slice aol1 ((x.ps.take k1).map cutPm).length capl1) ((x.ps.take k1).map cutPm) ∧ Mod (fun _ => False) w wr) (fun _ ti _ => x.os.length - (intOf ti).toNat)
   case atStart => exact ⟨0, rfl, Nat.zero_le _, Nat.zero_le _, Nat.le_refl _, OwS.nil _ _ _ _ _, HKL1_0.out, HKL1_1.out, HKL1_2.out, HKL1_3.out, HKL1_4.out, HAL1.out, HML1.out⟩
   case round =>
    obtain ⟨k2, rfl, hk, hkN, hz, ha, hk_0, hk_1, hk_2, hk_3, hk_4, hk_5, hm⟩ := hrel
    obtain ⟨wl2, rfl⟩ : ∃ x, x = wr := ⟨_, rfl⟩
    obtain ⟨aol2, capl2, rfl⟩ := ha.shape
    have HAL2 := Lib.hid ha
    have HKL2_0 := Lib.hid hk_0
    have HKL2_1 := Lib.hid hk_1
    have HKL2_2 := Lib.hid hk_2
    have HKL2_3 := Lib.hid hk_3
    have HKL2_4 := Lib.hid hk_4
    have HKL2_5 := Lib.hid hk_5
    have HML2 := Lib.hid hm
    clear ha hm hk_0 hk_1 hk_2 hk_3 hk_4 hk_5 HKL1_0 HKL1_1 HKL1_2 HKL1_3 HKL1_4 HML1 HAL1
    by_cases hlt2 : k2 < x.os.length ∧ k2 < 4
    ·obtain ⟨hlt2, hlN2⟩ := hlt2
     go_upto_region 8 with (fail)
     refine wp_region_U 86 [31, 32, 33, 34, 35, 36, 37, 38, 39] [0, 1, 2, 3, 4, 5, 6, 7, 8] (fun a0 HA0 => ?_)
     have oe1 := ev HA0 1 rfl
     have oe6 := ev HA0 6 rfl
     refine QSeq.pure rfl _ (fun E => ex_move rfl (E.v oe6)) ?_
     refine QSeq.pure rfl (.pointer (some ⟨w.heap.size, 3, none⟩)) (fun E => ex_field rfl Try.underlying60 rfl (by kernel_rfl) (E.v oe1)) ?_
     refine QSeq.pure rfl _ (fun E => ex_load1 rfl Try.underlying57 rfl (E.d 1 0) (Cs.lit1 HKL2_3.out rfl)) ?_
     refine QSeq.pure rfl (.int .i64 x.os.length) (fun E => ex_lenS rfl (E.d 2 0) Try.underlying57) ?_
     refine QSeq.pure rfl (.bool true) (fun E => ex_binE rfl (E.d 0 3) (E.d 3 0) (guard_ints _ _ _ _ _ _) (run_lss_i _ _ _ Try.underlying3) (congrArg Value.bool (decide_eq_true (by omega)))) ?_
     refine QSeq.pure rfl _ (fun E => ex_move rfl (E.d 4 0)) ?_
     refine QSeq.pureG rfl (.int .i64 ((k2 : Nat) : Int)) (fun E => ((wanted_of rfl rfl (E.sz 36 (by decide)) (E.d 5 0)).trans rfl)) (fun E => ex_move rfl (E.v oe6)) ?_
     refine QSeq.pureG rfl (.bool true) (fun E => ((wanted_of rfl rfl (E.sz 36 (by decide)) (E.d 5 1)).trans rfl)) (fun E => ex_binE rfl (E.d 6 0) rfl (guard_ints _ _ _ _ _ _) (run_lss_i _ _ _ Try.underlying3) (congrArg Value.bool (decide_eq_true (by omega)))) ?_
     refine QSeq.pure rfl (.bool true) (fun E => ex_pick rfl (E.d 5 2) (E.d 7 0) rfl) ?_
     refine QSeq.nil (t' := [_, _, _, _, _, _, _, _, _]) rfl ?_
     obtain rfl := HA0.out
     clear HA0 oe1 oe6
     simp only [pz, Act.put, List.setIfInBounds_toArray, List.set_cons_zero, List.set_cons_succ]
     have hat := HKL2_1.out.at hlt2
     obtain ⟨g2, o2, cs2, eao, hrg, hrd, hcs⟩ := hat
     subst eao
     have hcl : cs2.length = 34 := OpR.len hrd
     have HCL2 := Lib.hid hcl
     have HAT2 := hid (show CellsAt R2 wl2 g2 (o2 + k2 * 34) cs2 from ⟨hrg, hcs⟩)
     have HRD2 := Lib.hid hrd
     have HOC2 := hid (OpR.one hrd)
     clear hcl hcs hrd hrg
     have HE2 : Hid (((x.os.take k2).map cutOp) ++ [cutOp x.os[k2]] = (x.os.take (k2 + 1)).map cutOp) := hid (by rw [List.take_succ_eq_append_getElem hlt2, List.map_append]; rfl)
     have HLN2 : Hid (((x.os.take k2).map cutOp).length = k2) := hid (by rw [List.length_map, List.length_take]; omega)
     obtain ⟨y2, hy2⟩ : ∃ y, y = x.os[k2] := ⟨_, rfl⟩
     rw [← hy2] at HRD2 HE2
     clear hy2
     obtain ⟨v_e, rfl, hoke, hse⟩ := HRD2.out
     obtain ⟨aoe2, cape2, rfl⟩ := hse.shape
     have HOK2 := Lib.hid hoke
     have HSE2 := Lib.hid hse
     clear hoke hse HRD2
     go_upto_region 10 with (fail)
     refine wp_region_U 86 [42, 43, 44, 45, 46, 7, 92] [0, 1, 2, 3, 4, 5, 6] (fun a0 HA0 => ?_)
     have oe1 := ev HA0 1 rfl
     have oe6 := ev HA0 6 rfl
     refine QSeq.pure rfl (.pointer (some ⟨w.heap.size, 3, none⟩)) (fun E => ex_field rfl Try.underlying60 rfl (by kernel_rfl) (E.v oe1)) ?_
     refine QSeq.pure rfl _ (fun E => ex_load1 rfl Try.underlying57 rfl (E.d 0 0) (Cs.lit1 HKL2_3.out rfl)) ?_
     refine QSeq.pure rfl _ (fun E => ex_move rfl (E.v oe6)) ?_
     refine QSeq.pure rfl (.pointer (some ⟨g2, o2 + k2 * 34, none⟩)) (fun E => ex_idxS (i := k2) (s := 34) rfl Try.underlying57 (by kernel_rfl) (E.d 1 1) (E.d 2 0) hlt2) ?_
     refine QSeq.pure rfl _ (fun E => ex_loadA rfl Try.underlying87 rfl (off := o2 + k2 * 34) (cs := (y2.cells (.slice aoe2 y2.pl.length cape2))) (by rw [HCL2.out]; kernel_rfl) (E.d 3 0) (fun j u hu => (HAT2.out).2 j u hu)) ?_
     refine QSeq.go fun act E => ?_
     refine qc_alloc rfl (wanted_none rfl) rfl (z := [.int .i64 0, .slice none 0 0, .int .u8 0, .int .u8 0, .int .u8 0, .int .u8 0, .int .u8 0, .int .u8 0, .int .u8 0, .int .u8 0, .int .u8 0, .int .u8 0, .int .u8 0, .int .u8 0, .int .u8 0, .int .u8 0, .int .u8 0, .int .u8 0, .int .u8 0, .int .u8 0, .int .u8 0, .int .u8 0, .int .u8 0, .int .u8 0, .int .u8 0, .int .u8 0, .int .u8 0, .int .u8 0, .int .u8 0, .int .u8 0, .int .u8 0, .int .u8 0, .int .u8 0, .int .u8 0]) (by kernel_rfl) ?_
     intro u10_5 qq2 hm
     have zl10_5 := qq2.lt
     have Hx12 := hid qq2
     have zu10_5 := hm.size
     have Cx13 := hid (show Mod (fun _ => False) wl2 u10_5 from hm)
     clear hm
     clear act E qq2
     refine QSeq.go fun act E => ?_
     have hlz : ((y2.cells (.slice aoe2 y2.pl.length cape2))).length = List.length ([.int .i64 0, .slice none 0 0, .int .u8 0, .int .u8 0, .int .u8 0, .int .u8 0, .int .u8 0, .int .u8 0, .int .u8 0, .int .u8 0, .int .u8 0, .int .u8 0, .int .u8 0, .int .u8 0, .int .u8 0, .int .u8 0, .int .u8 0, .int .u8 0, .int .u8 0, .int .u8 0, .int .u8 0, .int .u8 0, .int .u8 0, .int .u8 0, .int .u8 0, .int .u8 0, .int .u8 0, .int .u8 0, .int .u8 0, .int .u8 0, .int .u8 0, .int .u8 0, .int .u8 0, .int .u8 0] : List Value) := (by rw [HCL2.out]; rfl)
     refine qc_store rfl (wanted_none rfl) rfl Hx12.out (off := 0) (vs := (y2.cells (.slice aoe2 y2.pl.length cape2))) (by rw [hlz]; kernel_rfl) HOC2.out (by rw [hlz]; exact Nat.le_of_eq (Nat.zero_add _)) (E.d 5 0) (ec (E.d 4 1)) ?_
     intro u10_6 qc0 hm
     have qq2 := qc0.eqv (b := ((y2.cells (.slice aoe2 y2.pl.length cape2)) : List Value).toArray) (lay_whole #[.int .i64 0, .slice none 0 0, .int .u8 0, .int .u8 0, .int .u8 0, .int .u8 0, .int .u8 0, .int .u8 0, .int .u8 0, .int .u8 0, .int .u8 0, .int .u8 0, .int .u8 0, .int .u8 0, .int .u8 0, .int .u8 0, .int .u8 0, .int .u8 0, .int .u8 0, .int .u8 0, .int .u8 0, .int .u8 0, .int .u8 0, .int .u8 0, .int .u8 0, .int .u8 0, .int .u8 0, .int .u8 0, .int .u8 0, .int .u8 0, .int .u8 0, .int .u8 0, .int .u8 0, .int .u8 0] _ (by rw [hlz]; rfl))
     clear qc0 hlz
     have Hx14 := hid qq2
     have zu10_6 := hm.size
     have HMu10_6 := hid hm
     have Cx15 := hid (Mod.goS (S' := (fun _ => False)) Cx13.out hm (fun _ h => h) (by intro k h0 h2; omega))
     clear hm Cx13
     clear act E qq2 Hx12
     clear HMu10_6
     refine QSeq.nil (t' := [_, _, _, _, _, _, _]) rfl ?_
     obtain rfl := HA0.out
     clear HA0 oe1 oe6
     simp only [pz, Act.put, List.setIfInBounds_toArray, List.set_cons_zero, List.set_cons_succ, List.set_nil]
     go_upto_region 11 with (fail)
     refine wp_region_U 86 [47, 48, 49, 50, 90] [0, 1, 2, 3, 4] (fun a0 HA0 => ?_)
     have oe7 := ev HA0 7 rfl
     refine QSeq.pure rfl (.pointer (some ⟨wl2.heap.size, 1, none⟩)) (fun E => ex_field rfl Try.underlying87 rfl (by kernel_rfl) (E.v oe7)) ?_
     refine QSeq.pure rfl _ (fun E => ex_load1 rfl Try.underlying38 rfl (E.d 0 0) (Cs.hd1 Hx14.out rfl)) ?_
     refine QSeq.call rfl rfl Try.func26 (Cut_R 260 (HSE2.out.mod Cx15.out (fun _ _ h => h)) (by decide)) (fun E => args2 (E.d 1 0) rfl) ?_
     rintro e u11_2 ⟨v', rfl, qpc, hm⟩
     obtain ⟨aop2, capp2, rfl⟩ := qpc.shape
     refine ⟨_, rfl, ?_⟩
     have Hx16 := hid qpc
     have zu11_2 := hm.size
     have Cx17 := hid (show Mod (fun _ => False) u10_6 u11_2 from hm)
     clear hm
     clear qpc
     refine QSeq.pure rfl (.pointer (some ⟨wl2.heap.size, 1, none⟩)) (fun E => ex_field rfl Try.underlying87 rfl (by kernel_rfl) (E.v oe7)) ?_
     refine QSeq.go fun act E => ?_
     refine qc_store rfl (wanted_none rfl) rfl (Hx14.out.mod Cx17.out (fun h => h)) (off := 1) (vs := [Value.slice aop2 (y2.pl.take 260).length capp2]) (by kernel_rfl) one1 (by rw [List.size_toArray, op_len _ _ HOK2.out.2.1]; show 1 + 1 ≤ 34; decide) (E.d 3 0) (ec (E.d 2 1)) ?_
     intro u11_4 qc0 hm
     have qq2 := qc0.eqv (b := (((cutOp y2).cells (Value.slice aop2 (y2.pl.take 260).length capp2)) : List Value).toArray) (lay_pl y2 (cutOp y2) _ _ ⟨rfl, rfl⟩)
     clear qc0
     have Hx18 := hid qq2
     have zu11_4 := hm.size
     have HMu11_4 := hid hm
     have Cx19 := hid (Mod.goS (S' := (fun k => (k = wl2.heap.size))) Cx17.out hm (fun _ h => h.elim) (by intro k h0 h2; exact h2))
     clear hm Cx17
     clear act E qq2 Hx14
     have Hx20 := hid (Hx16.out.mod HMu11_4.out (by intro k h1 h2; omega))
     clear Hx16 HMu11_4
     refine QSeq.nil (t' := [_, _, _, _, _]) rfl ?_
     obtain rfl := HA0.out
     clear HA0 oe7
     simp only [pz, Act.put, List.setIfInBounds_toArray, List.set_cons_zero, List.set_cons_succ, List.set_nil]
     have HEL2 := hid (show OpR.rd (fun k => (New u10_6 u11_2 k)) u11_4 ((cutOp y2).cells (Value.slice aop2 (y2.pl.take 260).length capp2)) (cutOp y2) from ⟨_, rfl, HOK2.out, RdR_len Hx20.out.rd⟩)
     go_upto_region 12 with (fail)
     refine wp_region_U 86 [51, 52, 53, 54, 5] [0, 1, 2, 3, 4] (fun a0 HA0 => ?_)
     have oe5 := ev HA0 5 rfl
     have oe7 := ev HA0 7 rfl
     refine QSeq.pure rfl _ (fun E => ex_move rfl (E.y 4 oe5)) ?_
     refine QSeq.pure rfl _ (fun E => ex_loadA rfl Try.underlying87 rfl (off := 0) (cs := ((cutOp y2).cells (Value.slice aop2 (y2.pl.take 260).length capp2))) (by rw [op_len (cutOp y2) _ HOK2.out.2.1]; kernel_rfl) (E.v oe7) (Cs.whole Hx18.out)) ?_
     refine QSeq.go fun act E => ?_
     refine qc_buildS (e := 87) (cs := ((cutOp y2).cells (Value.slice aop2 (y2.pl.take 260).length capp2))) (zc := [.int .i64 0, .slice none 0 0, .int .u8 0, .int .u8 0, .int .u8 0, .int .u8 0, .int .u8 0, .int .u8 0, .int .u8 0, .int .u8 0, .int .u8 0, .int .u8 0, .int .u8 0, .int .u8 0, .int .u8 0, .int .u8 0, .int .u8 0, .int .u8 0, .int .u8 0, .int .u8 0, .int .u8 0, .int .u8 0, .int .u8 0, .int .u8 0, .int .u8 0, .int .u8 0, .int .u8 0, .int .u8 0, .int .u8 0, .int .u8 0, .int .u8 0, .int .u8 0, .int .u8 0, .int .u8 0]) (sz := 34) rfl (wanted_none rfl) rfl Try.underlying57 (by kernel_rfl) rfl (by decide) (by decide) (E.d 1 0) (OpR.len HEL2.out) ?_
     intro u12_2 qrow hm
     have zl12_2 := qrow.lt
     have Hx21 := hid qrow
     have zu12_2 := hm.size
     have Cx22 := hid (show Mod (fun _ => False) u11_4 u12_2 from hm)
     clear hm
     clear act E qrow
     refine QSeq.go fun act E => ?_
     refine qc_appS (A := OpR) (e := 87) rfl (wanted_none rfl) rfl (.agg #[.int .i64 0, .slice none 0 0, .int .u8 0, .int .u8 0, .int .u8 0, .int .u8 0, .int .u8 0, .int .u8 0, .int .u8 0, .int .u8 0, .int .u8 0, .int .u8 0, .int .u8 0, .int .u8 0, .int .u8 0, .int .u8 0, .int .u8 0, .int .u8 0, .int .u8 0, .int .u8 0, .int .u8 0, .int .u8 0, .int .u8 0, .int .u8 0, .int .u8 0, .int .u8 0, .int .u8 0, .int .u8 0, .int .u8 0, .int .u8 0, .int .u8 0, .int .u8 0, .int .u8 0, .int .u8 0]) 64 Try.underlying57 info_Op (by rfl) (of_decide_eq_true (by kernel_rfl)) (E.d 0 2) (E.d 2 0) ((((HAL2.out.mod Cx15.out (fun _ _ h => h) (fun _ _ h => h)).mod Cx19.out (by intro k h1 h2; omega) (by intro k h1 h2; rcases h1 with h1 | h1 <;> first | omega | (have hb := HBT.out k h1; omega))).mod Cx22.out (fun _ _ h => h) (fun _ _ h => h))) (RdS.single (R := (fun k => (New u10_6 u11_2 k) ∨ (k = u11_4.heap.size))) Hx21.out ((HEL2.out.mod Cx22.out (fun _ _ h => h)).widen (by intro k h1; first | omega | exact h1.elim | exact Or.inl h1 | exact Or.inr (h1))) (by first | exact Or.inr rfl | exact Or.inr (Or.inr rfl) | (right; omega))) (by intro k h1 h2; omega) (by rw [HLN2.out]; simp only [List.length_cons, List.length_nil]; omega) (by rw [HLN2.out, maxLen_val]; simp only [List.length_cons, List.length_nil]; omega) ?_
     intro ao8 cap8 u12_3 qacc2 hm
     have Hx23 := hid (qacc2.widen (R' := (fun k => (New wl1 wl2 k) ∨ (New u12_2 u12_3 k))) (E' := (fun k => (R2 k) ∨ (New wl1 wl2 k) ∨ (New u10_6 u11_2 k) ∨ (k = u11_4.heap.size))) (fun _ h => h) (by intro k h1; rcases h1 with (h1 | h1) | (h1 | h1) <;> first | omega | exact h1.elim | exact Or.inl h1 | exact Or.inr (Or.inl h1) | exact Or.inr (Or.inr (Or.inl h1)) | exact Or.inr (Or.inr (Or.inr (h1)))))
     have zu12_3 := hm.size
     have HMu12_3 := hid hm
     have Cx24 := hid (Mod.goS (S' := (fun k => (New wl1 wl2 k))) Cx22.out hm (fun _ h => h.elim) (by intro k h0 h2; exact h2))
     clear hm Cx22
     clear act E qacc2 HAL2
     refine QSeq.pure rfl _ (fun E => ex_assign rfl (E.d 3 0)) ?_
     have Hx25 := hid (Hx21.out.mod HMu12_3.out (by intro h2; omega))
     clear Hx21 HMu12_3
     refine QSeq.nil (t' := [_, _, _, _, _]) rfl ?_
     obtain rfl := HA0.out
     clear HA0 oe5 oe7
     simp only [pz, Act.put, List.setIfInBounds_toArray, List.set_cons_zero, List.set_cons_succ]
     have hq := Hx23.out
     rw [HE2.out] at hq
     have HQ2 := Lib.hid hq
     clear hq
     go_wp2
     go_roundw
     case rel => exact ⟨k2 + 1, by go_num, by omega, by omega, by omega, (HQ2.out.widen (by intro b h1; omega) (by intro k h1; rcases h1 with h1 | h1 | h1 | h1 <;> first | omega | exact h1.elim | exact Or.inl h1 | exact Or.inr (h1))), (((HKL2_0.out.mod Cx15.out (fun _ _ h => h)).mod Cx19.out (sB HBT)).mod Cx24.out (sN HBT)), (((HKL2_1.out.mod Cx15.out (fun _ _ h => h)).mod Cx19.out (sB HBT)).mod Cx24.out (sN HBT)), (((HKL2_2.out.mod Cx15.out (fun _ _ h => h)).mod Cx19.out (sB HBT)).mod Cx24.out (sN HBT)), (((HKL2_3.out.mod Cx15.out (fun h => h)).mod Cx19.out (by intro h2; omega)).mod Cx24.out (by intro h2; omega)), (((HKL2_4.out.mod Cx15.out (fun h => h)).mod Cx19.out (by intro h2; omega)).mod Cx24.out (by intro h2; omega)), (((HKL2_5.out.mod Cx15.out (fun _ _ h => h) (fun _ _ h => h)).mod Cx19.out (by intro k h1 h2; omega) (by intro k h1 h2; rcases h1 with h1 | h1 <;> first | omega | (have hb := HBT.out k h1; omega))).mod Cx24.out (by intro k h1 h2; omega) (by intro k h1 h2; rcases h1 with h1 | h1 <;> first | omega | (have hb := HBT.out k h1; omega))), (((HML2.out.trans Cx15.out (fun _ _ h => h.elim)).trans Cx19.out (by intro k h1 h2; omega)).trans Cx24.out (by intro k h1 h2; omega))⟩
     case measure => simp [intOf]; omega
    ·skip
     obtain ⟨bA2, hbA2⟩ : ∃ b : Bool, b = decide (((k2 : Nat) : Int) < (x.os.length : Int)) := ⟨_, rfl⟩
     obtain ⟨bB2, hbB2⟩ : ∃ b : Bool, b = decide (((k2 : Nat) : Int) < 4) := ⟨_, rfl⟩
     go_upto_region 8 with (fail)
     refine wp_region_U 86 [31, 32, 33, 34, 35, 36, 37, 38, 39] [0, 1, 2, 3, 4, 5, 6, 7, 8] (fun a0 HA0 => ?_)
     have oe1 := ev HA0 1 rfl
     have oe6 := ev HA0 6 rfl
     refine QSeq.pure rfl _ (fun E => ex_move rfl (E.v oe6)) ?_
     refine QSeq.pure rfl (.pointer (some ⟨w.heap.size, 3, none⟩)) (fun E => ex_field rfl Try.underlying60 rfl (by kernel_rfl) (E.v oe1)) ?_
     refine QSeq.pure rfl _ (fun E => ex_load1 rfl Try.underlying57 rfl (E.d 1 0) (Cs.lit1 HKL2_3.out rfl)) ?_
     refine QSeq.pure rfl (.int .i64 x.os.length) (fun E => ex_lenS rfl (E.d 2 0) Try.underlying57) ?_
     refine QSeq.pure rfl (.bool bA2) (fun E => ex_binE rfl (E.d 0 3) (E.d 3 0) (guard_ints _ _ _ _ _ _) (run_lss_i _ _ _ Try.underlying3) (congrArg Value.bool hbA2.symm)) ?_
     refine QSeq.pure rfl _ (fun E => ex_move rfl (E.d 4 0)) ?_
     refine QSeq.may (b := bA2) rfl (.int .i64 ((k2 : Nat) : Int)) (fun E => ((wanted_of rfl rfl (E.sz 36 (by decide)) (E.d 5 0)).trans (beq_t _))) (fun E hb => ex_move rfl (E.v oe6)) ?_
     intro v8_6 hw
     have hv8_6 := hid hw
     clear hw
     refine QSeq.may (b := bA2) rfl (.bool bB2) (fun E => ((wanted_of rfl rfl (E.sz 36 (by decide)) (E.d 5 1)).trans (beq_t _))) (fun E hb => ex_binE rfl ((E.q 6 0 hv8_6.out).1 hb) rfl (guard_ints _ _ _ _ _ _) (run_lss_i _ _ _ Try.underlying3) (congrArg Value.bool hbB2.symm)) ?_
     intro v8_7 hw
     have hv8_7 := hid hw
     clear hw
     refine QSeq.pure rfl (.bool (bA2 && bB2)) (fun E => ex_pickE rfl (E.d 5 2) rfl rfl (and_val fun hb => (E.q 7 0 hv8_7.out).1 hb)) ?_
     clear hv8_6 hv8_7
     refine QSeq.nil (t' := [_, _, _, _, _, _, _, _, _]) rfl ?_
     obtain rfl := HA0.out
     clear HA0 oe1 oe6
     simp only [pz, Act.put, List.setIfInBounds_toArray, List.set_cons_zero, List.set_cons_succ]
     rw [show (bA2 && bB2) = false by rw [hbA2, hbB2, Bool.and_eq_false_iff, decide_eq_false_iff_not, decide_eq_false_iff_not]; omega]
     have HTK2 := hid (show x.os.take k2 = x.os.take 4 from take_two (by omega) (by omega))
     go_wp2
     go_loopw [8, 9] (fun ta ti wr => ∃ k : Nat, ti = .int .i64 (k : Int) ∧ k ≤ x.ts.length ∧ k ≤ 4 ∧ wl2.heap.size ≤ wr.heap.size ∧ OwS TbR 90 (fun b => wl2.heap.size ≤ b ∧ b < wr.heap.size) (fun b => R2 b ∨ (wl2.heap.size ≤ b ∧ b < wr.heap.size)) wr ta ((x.ts.take k).map cutTb) ∧ RdS PmR R2 wr (.slice ao_ps x.ps.length cap_ps) x.ps ∧ RdS OpR R2 wr (.slice ao_os x.os.length cap_os) x.os ∧ RdS TbR R2 wr (.slice ao_ts x.ts.length cap_ts) x.ts ∧ Cs wr (w.heap.size) (x.cells (.slice ao_ps x.ps.length cap_ps) (.slice ao_os x.os.length cap_os) (.slice ao_ts x.ts.length cap_ts) : List Value).toArray 60 ∧ Cs wr (w.heap.size + 1) #[.int .i64 0, .int .u64 0, .slice none 0 0, .slice none 0 0, .slice none 0 0] 60 ∧ OwS PmR 55 (fun b => w1.heap.size ≤ b ∧ b < wl1.heap.size) (fun b => R2 b ∨ (w1.heap.size ≤ b ∧ b < wl1.heap.size)) wr (.slice aol1 ((x.ps.take k1).map cutPm).length capl1) ((x.ps.take k1).map cutPm) ∧ OwS OpR 87 (fun b => wl1.heap.size ≤ b ∧ b < wl2.heap.size) (fun b => R2 b ∨ (wl1.heap.size ≤ b ∧ b < wl2.heap.size)) wr (.slice aol2 ((x.os.take k2).map cutOp).length capl2) ((x.os.take k2).map cutOp) ∧ Mod (fun _ => False) w wr) (fun _ ti _ => x.ts.length - (intOf ti).toNat)
     case atStart => exact ⟨0, rfl, Nat.zero_le _, Nat.zero_le _, Nat.le_refl _, OwS.nil _ _ _ _ _, HKL2_0.out, HKL2_1.out, HKL2_2.out, HKL2_3.out, HKL2_4.out, HKL2_5.out, HAL2.out, HML2.out⟩
     case round =>
      obtain ⟨k3, rfl, hk, hkN, hz, ha, hk_0, hk_1, hk_2, hk_3, hk_4, hk_5, hk_6, hm⟩ := hrel
      obtain ⟨wl3, rfl⟩ : ∃ x, x = wr := ⟨_, rfl⟩
      obtain ⟨aol3, capl3, rfl⟩ := ha.shape
      have HAL3 := Lib.hid ha
      have HKL3_0 := Lib.hid hk_0
      have HKL3_1 := Lib.hid hk_1
      have HKL3_2 := Lib.hid hk_2
      have HKL3_3 := Lib.hid hk_3
      have HKL3_4 := Lib.hid hk_4
      have HKL3_5 := Lib.hid hk_5
      have HKL3_6 := Lib.hid hk_6
      have HML3 := Lib.hid hm
      clear ha hm hk_0 hk_1 hk_2 hk_3 hk_4 hk_5 hk_6 HKL2_0 HKL2_1 HKL2_2 HKL2_3 HKL2_4 HKL2_5 HML2 HAL2
      by_cases hlt3 : k3 < x.ts.length ∧ k3 < 4
      ·obtain ⟨hlt3, hlN3⟩ := hlt3
       go_upto_region 15 with (fail)
       refine wp_region_U 86 [55, 56, 57, 58, 59, 60, 61, 62, 63] [0, 1, 2, 3, 4, 5, 6, 7, 8] (fun a0 HA0 => ?_)
       have oe1 := ev HA0 1 rfl
       have oe9 := ev HA0 9 rfl
       refine QSeq.pure rfl _ (fun E => ex_move rfl (E.v oe9)) ?_
       refine QSeq.pure rfl (.pointer (some ⟨w.heap.size, 4, none⟩)) (fun E => ex_field rfl Try.underlying60 rfl (by kernel_rfl) (E.v oe1)) ?_
       refine QSeq.pure rfl _ (fun E => ex_load1 rfl Try.underlying58 rfl (E.d 1 0) (Cs.lit1 HKL3_3.out rfl)) ?_
       refine QSeq.pure rfl (.int .i64 x.ts.length) (fun E => ex_lenS rfl (E.d 2 0) Try.underlying58) ?_
       refine QSeq.pure rfl (.bool true) (fun E => ex_binE rfl (E.d 0 3) (E.d 3 0) (guard_ints _ _ _ _ _ _) (run_lss_i _ _ _ Try.underlying3) (congrArg Value.bool (decide_eq_true (by omega)))) ?_
       refine QSeq.pure rfl _ (fun E => ex_move rfl (E.d 4 0)) ?_
       refine QSeq.pureG rfl (.int .i64 ((k3 : Nat) : Int)) (fun E => ((wanted_of rfl rfl (E.sz 60 (by decide)) (E.d 5 0)).trans rfl)) (fun E => ex_move rfl (E.v oe9)) ?_
       refine QSeq.pureG rfl (.bool true) (fun E => ((wanted_of rfl rfl (E.sz 60 (by decide)) (E.d 5 1)).trans rfl)) (fun E => ex_binE rfl (E.d 6 0) rfl (guard_ints _ _ _ _ _ _) (run_lss_i _ _ _ Try.underlying3) (congrArg Value.bool (decide_eq_true (by omega)))) ?_
       refine QSeq.pure rfl (.bool true) (fun E => ex_pick rfl (E.d 5 2) (E.d 7 0) rfl) ?_
       refine QSeq.nil (t' := [_, _, _, _, _, _, _, _, _]) rfl ?_
       obtain rfl := HA0.out
       clear HA0 oe1 oe9
       simp only [pz, Act.put, List.setIfInBounds_toArray, List.set_cons_zero, List.set_cons_succ]
       have hat := HKL3_2.out.at hlt3
       obtain ⟨g3, o3, cs3, eao, hrg, hrd, hcs⟩ := hat
       subst eao
       have hcl : cs3.length = 2 := TbR.len hrd
       have HCL3 := Lib.hid hcl
       have HAT3 := hid (show CellsAt R2 wl3 g3 (o3 + k3 * 2) cs3 from ⟨hrg, hcs⟩)
       have HRD3 := Lib.hid hrd
       have HOC3 := hid (TbR.one hrd)
       clear hcl hcs hrd hrg
       have HE3 : Hid (((x.ts.take k3).map cutTb) ++ [cutTb x.ts[k3]] = (x.ts.take (k3 + 1)).map cutTb) := hid (by rw [List.take_succ_eq_append_getElem hlt3, List.map_append]; rfl)
       have HLN3 : Hid (((x.ts.take k3).map cutTb).length = k3) := hid (by rw [List.length_map, List.length_take]; omega)
       obtain ⟨y3, hy3⟩ : ∃ y, y = x.ts[k3] := ⟨_, rfl⟩
       rw [← hy3] at HRD3 HE3
       clear hy3
       obtain ⟨v_e, rfl, hoke, hse⟩ := HRD3.out
       obtain ⟨aoe3, cape3, rfl⟩ := hse.shape
       have HOK3 := Lib.hid hoke
       have HSE3 := Lib.hid hse
       clear hoke hse HRD3
       go_upto_region 17 with (fail)
       refine wp_region_U 86 [66, 67, 68, 69, 70, 10, 92] [0, 1, 2, 3, 4, 5, 6] (fun a0 HA0 => ?_)
       have oe1 := ev HA0 1 rfl
       have oe9 := ev HA0 9 rfl
       refine QSeq.pure rfl (.pointer (some ⟨w.heap.size, 4, none⟩)) (fun E => ex_field rfl Try.underlying60 rfl (by kernel_rfl) (E.v oe1)) ?_
       refine QSeq.pure rfl _ (fun E => ex_load1 rfl Try.underlying58 rfl (E.d 0 0) (Cs.lit1 HKL3_3.out rfl)) ?_
       refine QSeq.pure rfl _ (fun E => ex_move rfl (E.v oe9)) ?_
       refine QSeq.pure rfl (.pointer (some ⟨g3, o3 + k3 * 2, none⟩)) (fun E => ex_idxS (i := k3) (s := 2) rfl Try.underlying58 (by kernel_rfl) (E.d 1 1) (E.d 2 0) hlt3) ?_
       refine QSeq.pure rfl _ (fun E => ex_loadA rfl Try.underlying90 rfl (off := o3 + k3 * 2) (cs := (y3.cells (.slice aoe3 y3.l.length cape3))) (by rw [HCL3.out]; kernel_rfl) (E.d 3 0) (fun j u hu => (HAT3.out).2 j u hu)) ?_
       refine QSeq.go fun act E => ?_
       refine qc_alloc rfl (wanted_none rfl) rfl (z := [.int .i64 0, .slice none 0 0]) (by kernel_rfl) ?_
       intro u17_5 qq3 hm
       have zl17_5 := qq3.lt
       have Hx26 := hid qq3
       have zu17_5 := hm.size
       have Cx27 := hid (show Mod (fun _ => False) wl3 u17_5 from hm)
       clear hm
       clear act E qq3
       refine QSeq.go fun act E => ?_
       have hlz : ((y3.cells (.slice aoe3 y3.l.length cape3))).length = List.length ([.int .i64 0, .slice none 0 0] : List Value) := (by rw [HCL3.out]; rfl)
       refine qc_store rfl (wanted_none rfl) rfl Hx26.out (off := 0) (vs := (y3.cells (.slice aoe3 y3.l.length cape3))) (by rw [hlz]; kernel_rfl) HOC3.out (by rw [hlz]; exact Nat.le_of_eq (Nat.zero_add _)) (E.d 5 0) (ec (E.d 4 1)) ?_
       intro u17_6 qc0 hm
       have qq3 := qc0.eqv (b := ((y3.cells (.slice aoe3 y3.l.length cape3)) : List Value).toArray) (lay_whole #[.int .i64 0, .slice none 0 0] _ (by rw [hlz]; rfl))
       clear qc0 hlz
       have Hx28 := hid qq3
       have zu17_6 := hm.size
       have HMu17_6 := hid hm
       have Cx29 := hid (Mod.goS (S' := (fun _ => False)) Cx27.out hm (fun _ h => h) (by intro k h0 h2; omega))
       clear hm Cx27
       clear act E qq3 Hx26
       clear HMu17_6
       refine QSeq.nil (t' := [_, _, _, _, _, _, _]) rfl ?_
       obtain rfl := HA0.out
       clear HA0 oe1 oe9
       simp only [pz, Act.put, List.setIfInBounds_toArray, List.set_cons_zero, List.set_cons_succ, List.set_nil]
       go_upto_region 18 with (fail)
       refine wp_region_U 86 [71, 72, 73, 74, 90] [0, 1, 2, 3, 4] (fun a0 HA0 => ?_)
       have oe10 := ev HA0 10 rfl
       refine QSeq.pure rfl (.pointer (some ⟨wl3.heap.size, 1, none⟩)) (fun E => ex_field rfl Try.underlying90 rfl (by kernel_rfl) (E.v oe10)) ?_
       refine QSeq.pure rfl _ (fun E => ex_load1 rfl Try.underlying88 rfl (E.d 0 0) (Cs.lit1 Hx28.out rfl)) ?_
       refine QSeq.call rfl rfl Try.func78 (Cut_Dn _ _ y3.l 5 _ (HSE3.out.mod Cx29.out (fun _ _ h => h)) (by intro k h1; have hb := HBT.out k h1; omega) (by omega)) (fun E => args2 (E.d 1 0) rfl) ?_
       rintro e u18_2 ⟨v', rfl, qpc, hm⟩
       obtain ⟨aop3, capp3, rfl⟩ := qpc.shape
       refine ⟨_, rfl, ?_⟩
       have Hx30 := hid (qpc.widen (R' := (fun k => (New u17_6 u18_2 k))) (E' := (fun k => (R2 k))) (fun _ h => h) (fun _ h => h))
       have zu18_2 := hm.size
       have Cx31 := hid (show Mod (fun _ => False) u17_6 u18_2 from hm)
       clear hm
       clear qpc
       refine QSeq.pure rfl (.pointer (some ⟨wl3.heap.size, 1, none⟩)) (fun E => ex_field rfl Try.underlying90 rfl (by kernel_rfl) (E.v oe10)) ?_
       refine QSeq.go fun act E => ?_
       refine qc_store rfl (wanted_none rfl) rfl (Hx28.out.mod Cx31.out (fun h => h)) (off := 1) (vs := [Value.slice aop3 (y3.l.take 5).length capp3]) (by kernel_rfl) one1 (by show 1 + 1 ≤ 2; decide) (E.d 3 0) (ec (E.d 2 1)) ?_
       intro u18_4 qc0 hm
       have qq3 := qc0.eqv (b := (((cutTb y3).cells (Value.slice aop3 (y3.l.take 5).length capp3)) : List Value).toArray) (lay_tl y3 (cutTb y3) _ _ rfl)
       clear qc0
       have Hx32 := hid qq3
       have zu18_4 := hm.size
       have HMu18_4 := hid hm
       have Cx33 := hid (Mod.goS (S' := (fun k => (k = wl3.heap.size))) Cx31.out hm (fun _ h => h.elim) (by intro k h0 h2; exact h2))
       clear hm Cx31
       clear act E qq3 Hx28
       have Hx34 := hid (Hx30.out.mod HMu18_4.out (by intro k h1 h2; omega) (sB HBT))
       clear Hx30 HMu18_4
       refine QSeq.nil (t' := [_, _, _, _, _]) rfl ?_
       obtain rfl := HA0.out
       clear HA0 oe10
       simp only [pz, Act.put, List.setIfInBounds_toArray, List.set_cons_zero, List.set_cons_succ, List.set_nil]
       have HEL3 := hid (show TbR.rd (fun k => (New u17_6 u18_2 k) ∨ (R2 k)) u18_4 ((cutTb y3).cells (Value.slice aop3 (y3.l.take 5).length capp3)) (cutTb y3) from ⟨_, rfl, HOK3.out, Hx34.out.rd.widen (by intro k h1; rcases h1 with h1 | h1 <;> first | omega | exact h1.elim | exact Or.inl h1 | exact Or.inr (h1))⟩)
       go_upto_region 19 with (fail)
       refine wp_region_U 86 [75, 76, 77, 78, 8] [0, 1, 2, 3, 4] (fun a0 HA0 => ?_)
       have oe8 := ev HA0 8 rfl
       have oe10 := ev HA0 10 rfl
       refine QSeq.pure rfl _ (fun E => ex_move rfl (E.y 4 oe8)) ?_
       refine QSeq.pure rfl _ (fun E => ex_loadA rfl Try.underlying90 rfl (off := 0) (cs := ((cutTb y3).cells (Value.slice aop3 (y3.l.take 5).length capp3))) (by kernel_rfl) (E.v oe10) (Cs.whole Hx32.out)) ?_
       refine QSeq.go fun act E => ?_
       refine qc_buildS (e := 90) (cs := ((cutTb y3).cells (Value.slice aop3 (y3.l.take 5).length capp3))) (zc := [.int .i64 0, .slice none 0 0]) (sz := 2) rfl (wanted_none rfl) rfl Try.underlying58 (by kernel_rfl) rfl (by decide) (by decide) (E.d 1 0) (TbR.len HEL3.out) ?_
       intro u19_2 qrow hm
       have zl19_2 := qrow.lt
       have Hx35 := hid qrow
       have zu19_2 := hm.size
       have Cx36 := hid (show Mod (fun _ => False) u18_4 u19_2 from hm)
       clear hm
       clear act E qrow
       refine QSeq.go fun act E => ?_
       refine qc_appS (A := TbR) (e := 90) rfl (wanted_none rfl) rfl (.agg #[.int .i64 0, .slice none 0 0]) 32 Try.underlying58 info_Tb (by rfl) (of_decide_eq_true (by kernel_rfl)) (E.d 0 2) (E.d 2 0) ((((HAL3.out.mod Cx29.out (fun _ _ h => h) (fun _ _ h => h)).mod Cx33.out (by intro k h1 h2; omega) (by intro k h1 h2; rcases h1 with h1 | h1 <;> first | omega | (have hb := HBT.out k h1; omega))).mod Cx36.out (fun _ _ h => h) (fun _ _ h => h))) (RdS.single (R := (fun k => (New u17_6 u18_2 k) ∨ (R2 k) ∨ (k = u18_4.heap.size))) Hx35.out ((HEL3.out.mod Cx36.out (fun _ _ h => h)).widen (by intro k h1; rcases h1 with h1 | h1 <;> first | omega | exact h1.elim | exact Or.inl h1 | exact Or.inr (Or.inl h1) | exact Or.inr (Or.inr (h1)))) (by first | exact Or.inr rfl | exact Or.inr (Or.inr rfl) | (right; omega))) (by intro k h1 h2; rcases h1 with h1 | h1 | h1 <;> first | omega | (have hb := HBT.out k h1; omega)) (by rw [HLN3.out]; simp only [List.length_cons, List.length_nil]; omega) (by rw [HLN3.out, maxLen_val]; simp only [List.length_cons, List.length_nil]; omega) ?_
       intro ao9 cap9 u19_3 qacc3 hm
       have Hx37 := hid (qacc3.widen (R' := (fun k => (New wl2 wl3 k) ∨ (New u19_2 u19_3 k))) (E' := (fun k => (R2 k) ∨ (New wl2 wl3 k) ∨ (New u17_6 u18_2 k) ∨ (k = u18_4.heap.size))) (fun _ h => h) (by intro k h1; rcases h1 with (h1 | h1) | (h1 | h1 | h1) <;> first | omega | exact h1.elim | exact Or.inl h1 | exact Or.inr (Or.inl h1) | exact Or.inr (Or.inr (Or.inl h1)) | exact Or.inr (Or.inr (Or.inr (h1)))))
       have zu19_3 := hm.size
       have HMu19_3 := hid hm
       have Cx38 := hid (Mod.goS (S' := (fun k => (New wl2 wl3 k))) Cx36.out hm (fun _ h => h.elim) (by intro k h0 h2; exact h2))
       clear hm Cx36
       clear act E qacc3 HAL3
       refine QSeq.pure rfl _ (fun E => ex_assign rfl (E.d 3 0)) ?_
       have Hx39 := hid (Hx35.out.mod HMu19_3.out (by intro h2; omega))
       clear Hx35 HMu19_3
       refine QSeq.nil (t' := [_, _, _, _, _]) rfl ?_
       obtain rfl := HA0.out
       clear HA0 oe8 oe10
       simp only [pz, Act.put, List.setIfInBounds_toArray, List.set_cons_zero, List.set_cons_succ]
       have hq := Hx37.out
       rw [HE3.out] at hq
       have HQ3 := Lib.hid hq
       clear hq
       go_wp2
       go_roundw
       case rel => exact ⟨k3 + 1, by go_num, by omega, by omega, by omega, (HQ3.out.widen (by intro b h1; omega) (by intro k h1; rcases h1 with h1 | h1 | h1 | h1 <;> first | omega | exact h1.elim | exact Or.inl h1 | exact Or.inr (h1))), (((HKL3_0.out.mod Cx29.out (fun _ _ h => h)).mod Cx33.out (sB HBT)).mod Cx38.out (sN HBT)), (((HKL3_1.out.mod Cx29.out (fun _ _ h => h)).mod Cx33.out (sB HBT)).mod Cx38.out (sN HBT)), (((HKL3_2.out.mod Cx29.out (fun _ _ h => h)).mod Cx33.out (sB HBT)).mod Cx38.out (sN HBT)), (((HKL3_3.out.mod Cx29.out (fun h => h)).mod Cx33.out (by intro h2; omega)).mod Cx38.out (by intro h2; omega)), (((HKL3_4.out.mod Cx29.out (fun h => h)).mod Cx33.out (by intro h2; omega)).mod Cx38.out (by intro h2; omega)), (((HKL3_5.out.mod Cx29.out (fun _ _ h => h) (fun _ _ h => h)).mod Cx33.out (by intro k h1 h2; omega) (by intro k h1 h2; rcases h1 with h1 | h1 <;> first | omega | (have hb := HBT.out k h1; omega))).mod Cx38.out (by intro k h1 h2; omega) (by intro k h1 h2; rcases h1 with h1 | h1 <;> first | omega | (have hb := HBT.out k h1; omega))), (((HKL3_6.out.mod Cx29.out (fun _ _ h => h) (fun _ _ h => h)).mod Cx33.out (by intro k h1 h2; omega) (by intro k h1 h2; rcases h1 with h1 | h1 <;> first | omega | (have hb := HBT.out k h1; omega))).mod Cx38.out (by intro k h1 h2; omega) (by intro k h1 h2; rcases h1 with h1 | h1 <;> first | omega | (have hb := HBT.out k h1; omega))), (((HML3.out.trans Cx29.out (fun _ _ h => h.elim)).trans Cx33.out (by intro k h1 h2; omega)).trans Cx38.out (by intro k h1 h2; omega))⟩
       case measure => simp [intOf]; omega
      ·skip
       obtain ⟨bA3, hbA3⟩ : ∃ b : Bool, b = decide (((k3 : Nat) : Int) < (x.ts.length : Int)) := ⟨_, rfl⟩
       obtain ⟨bB3, hbB3⟩ : ∃ b : Bool, b = decide (((k3 : Nat) : Int) < 4) := ⟨_, rfl⟩
       go_upto_region 15 with (fail)
       refine wp_region_U 86 [55, 56, 57, 58, 59, 60, 61, 62, 63] [0, 1, 2, 3, 4, 5, 6, 7, 8] (fun a0 HA0 => ?_)
       have oe1 := ev HA0 1 rfl
       have oe9 := ev HA0 9 rfl
       refine QSeq.pure rfl _ (fun E => ex_move rfl (E.v oe9)) ?_
       refine QSeq.pure rfl (.pointer (some ⟨w.heap.size, 4, none⟩)) (fun E => ex_field rfl Try.underlying60 rfl (by kernel_rfl) (E.v oe1)) ?_
       refine QSeq.pure rfl _ (fun E => ex_load1 rfl Try.underlying58 rfl (E.d 1 0) (Cs.lit1 HKL3_3.out rfl)) ?_
       refine QSeq.pure rfl (.int .i64 x.ts.length) (fun E => ex_lenS rfl (E.d 2 0) Try.underlying58) ?_
       refine QSeq.pure rfl (.bool bA3) (fun E => ex_binE rfl (E.d 0 3) (E.d 3 0) (guard_ints _ _ _ _ _ _) (run_lss_i _ _ _ Try.underlying3) (congrArg Value.bool hbA3.symm)) ?_
       refine QSeq.pure rfl _ (fun E => ex_move rfl (E.d 4 0)) ?_
       refine QSeq.may (b := bA3) rfl (.int .i64 ((k3 : Nat) : Int)) (fun E => ((wanted_of rfl rfl (E.sz 60 (by decide)) (E.d 5 0)).trans (beq_t _))) (fun E hb => ex_move rfl (E.v oe9)) ?_
       intro v15_6 hw
       have hv15_6 := hid hw
       clear hw
       refine QSeq.may (b := bA3) rfl (.bool bB3) (fun E => ((wanted_of rfl rfl (E.sz 60 (by decide)) (E.d 5 1)).trans (beq_t _))) (fun E hb => ex_binE rfl ((E.q 6 0 hv15_6.out).1 hb) rfl (guard_ints _ _ _ _ _ _) (run_lss_i _ _ _ Try.underlying3) (congrArg Value.bool hbB3.symm)) ?_
       intro v15_7 hw
       have hv15_7 := hid hw
       clear hw
       refine QSeq.pure rfl (.bool (bA3 && bB3)) (fun E => ex_pickE rfl (E.d 5 2) rfl rfl (and_val fun hb => (E.q 7 0 hv15_7.out).1 hb)) ?_
       clear hv15_6 hv15_7
       refine QSeq.nil (t' := [_, _, _, _, _, _, _, _, _]) rfl ?_
       obtain rfl := HA0.out
       clear HA0 oe1 oe9
       simp only [pz, Act.put, List.setIfInBounds_toArray, List.set_cons_zero, List.set_cons_succ]
       rw [show (bA3 && bB3) = false by rw [hbA3, hbB3, Bool.and_eq_false_iff, decide_eq_false_iff_not, decide_eq_false_iff_not]; omega]
       have HTK3 := hid (show x.ts.take k3 = x.ts.take 4 from take_two (by omega) (by omega))
       go_upto_region 20 with (fail)
       refine wp_region_U 86 [79, 80, 81, 82, 90, 83, 92, 84, 94] [0, 1, 2, 3, 4, 5, 6, 7, 8] (fun a0 HA0 => ?_)
       have oe1 := ev HA0 1 rfl
       have oe3 := ev HA0 3 rfl
       have oe5 := ev HA0 5 rfl
       have oe8 := ev HA0 8 rfl
       refine QSeq.pure rfl _ (fun E => ex_move rfl (E.v oe3)) ?_
       refine QSeq.pure rfl _ (fun E => ex_move rfl (E.v oe5)) ?_
       refine QSeq.pure rfl _ (fun E => ex_move rfl (E.v oe8)) ?_
       refine QSeq.pure rfl (.pointer (some ⟨w.heap.size, 2, none⟩)) (fun E => ex_field rfl Try.underlying60 rfl (by kernel_rfl) (E.v oe1)) ?_
       refine QSeq.go fun act E => ?_
       refine qc_store rfl (wanted_none rfl) rfl HKL3_3.out (off := 2) (vs := [Value.slice aol1 ((x.ps.take k1).map cutPm).length capl1]) (by kernel_rfl) one1 (by simp) (E.d 3 0) (ec (E.d 0 3)) ?_
       intro u20_4 qc0 hm
       have qB1 := qc0.eqv (b := #[.int .i64 x.ep, .int .u64 (x.tm : Nat), Value.slice aol1 ((x.ps.take k1).map cutPm).length capl1, Value.slice ao_os x.os.length cap_os, Value.slice ao_ts x.ts.length cap_ts]) rfl
       clear qc0
       have Hx40 := hid qB1
       have zu20_4 := hm.size
       have Cx41 := hid (show Mod (fun k => (k = w.heap.size)) wl3 u20_4 from hm)
       clear hm
       clear act E qB1 HKL3_3
       refine QSeq.pure rfl (.pointer (some ⟨w.heap.size, 3, none⟩)) (fun E => ex_field rfl Try.underlying60 rfl (by kernel_rfl) (E.v oe1)) ?_
       refine QSeq.go fun act E => ?_
       refine qc_store rfl (wanted_none rfl) rfl Hx40.out (off := 3) (vs := [Value.slice aol2 ((x.os.take k2).map cutOp).length capl2]) (by kernel_rfl) one1 (by simp) (E.d 5 0) (ec (E.d 1 4)) ?_
       intro u20_6 qc0 hm
       have qB1 := qc0.eqv (b := #[.int .i64 x.ep, .int .u64 (x.tm : Nat), Value.slice aol1 ((x.ps.take k1).map cutPm).length capl1, Value.slice aol2 ((x.os.take k2).map cutOp).length capl2, Value.slice ao_ts x.ts.length cap_ts]) rfl
       clear qc0
       have Hx42 := hid qB1
       have zu20_6 := hm.size
       have HMu20_6 := hid hm
       have Cx43 := hid (Mod.goS (S' := (fun k => (k = w.heap.size))) Cx41.out hm (fun _ h => h) (by intro k h0 h2; exact h2))
       clear hm Cx41
       clear act E qB1 Hx40
       refine QSeq.pure rfl (.pointer (some ⟨w.heap.size, 4, none⟩)) (fun E => ex_field rfl Try.underlying60 rfl (by kernel_rfl) (E.v oe1)) ?_
       refine QSeq.go fun act E => ?_
       refine qc_store rfl (wanted_none rfl) rfl Hx42.out (off := 4) (vs := [Value.slice aol3 ((x.ts.take k3).map cutTb).length capl3]) (by kernel_rfl) one1 (by simp) (E.d 7 0) (ec (E.d 2 5)) ?_
       intro u20_8 qc0 hm
       have qB1 := qc0.eqv (b := #[.int .i64 x.ep, .int .u64 (x.tm : Nat), Value.slice aol1 ((x.ps.take k1).map cutPm).length capl1, Value.slice aol2 ((x.os.take k2).map cutOp).length capl2, Value.slice aol3 ((x.ts.take k3).map cutTb).length capl3]) rfl
       clear qc0
       have Hx44 := hid qB1
       have zu20_8 := hm.size
       have HMu20_8 := hid hm
       have Cx45 := hid (Mod.goS (S' := (fun k => (k = w.heap.size))) Cx43.out hm (fun _ h => h) (by intro k h0 h2; exact h2))
       clear hm Cx43
       clear act E qB1 Hx42
       clear HMu20_6 HMu20_8
       refine QSeq.nil (t' := [_, _, _, _, _, _, _, _, _]) rfl ?_
       obtain rfl := HA0.out
       clear HA0 oe1 oe3 oe5 oe8
       simp only [pz, Act.put, List.setIfInBounds_toArray, List.set_cons_zero, List.set_cons_succ, List.set_nil]
       go_upto_region 21 with (fail)
       refine wp_region_U 86 [85, 87] [0, 1] (fun a0 HA0 => ?_)
       have oe1 := ev HA0 1 rfl
       have oe2 := ev HA0 2 rfl
       refine QSeq.pure rfl _ (fun E => ex_loadA rfl Try.underlying60 rfl (off := 0) (cs := [.int .i64 x.ep, .int .u64 (x.tm : Nat), Value.slice aol1 ((x.ps.take k1).map cutPm).length capl1, Value.slice aol2 ((x.os.take k2).map cutOp).length capl2, Value.slice aol3 ((x.ts.take k3).map cutTb).length capl3]) (by kernel_rfl) (E.v oe1) (Cs.whole Hx44.out)) ?_
       refine QSeq.go fun act E => ?_
       refine qc_store rfl (wanted_none rfl) rfl (HKL3_4.out.mod Cx45.out (by intro h2; omega)) (off := 0) (vs := [.int .i64 x.ep, .int .u64 (x.tm : Nat), Value.slice aol1 ((x.ps.take k1).map cutPm).length capl1, Value.slice aol2 ((x.os.take k2).map cutOp).length capl2, Value.slice aol3 ((x.ts.take k3).map cutTb).length capl3]) (by kernel_rfl) (by intro u hu; simp at hu; rcases hu with rfl | rfl | rfl | rfl | rfl <;> rfl) (by simp) (E.v oe2) (ec (E.d 0 0)) ?_
       intro u21_1 qc0 hm
       have qB2 := qc0.eqv (b := #[.int .i64 x.ep, .int .u64 (x.tm : Nat), Value.slice aol1 ((x.ps.take k1).map cutPm).length capl1, Value.slice aol2 ((x.os.take k2).map cutOp).length capl2, Value.slice aol3 ((x.ts.take k3).map cutTb).length capl3]) rfl
       clear qc0
       have Hx46 := hid qB2
       have zu21_1 := hm.size
       have Cx47 := hid (show Mod (fun k => (k = w.heap.size + 1)) u20_8 u21_1 from hm)
       clear hm
       clear act E qB2 HKL3_4
       refine QSeq.nil (t' := [_, _]) rfl ?_
       obtain rfl := HA0.out
       clear HA0 oe1 oe2
       simp only [pz, Act.put, List.setIfInBounds_toArray, List.set_cons_zero, List.set_cons_succ, List.set_nil]
       go_wp2
       refine bodyPost_ret (results_cellA rfl _ _ (w.heap.size + 1) ([.int .i64 x.ep, .int .u64 (x.tm : Nat), Value.slice aol1 ((x.ps.take k1).map cutPm).length capl1, Value.slice aol2 ((x.os.take k2).map cutOp).length capl2, Value.slice aol3 ((x.ts.take k3).map cutTb).length capl3]) rfl (fun k u hu => by rw [Hx46.out.cell]; simpa using hu) Try.underlying60 rfl (by kernel_rfl)) rfl ⟨_, rfl, ⟨_, _, _, rfl, HOK.out, ?_, ?_, ?_⟩, ((HML3.out.trans Cx45.out (by intro k h1 h2; omega)).trans Cx47.out (by intro k h1 h2; omega))⟩
       ·rw [show (cutBa x).ps = (x.ps.take k1).map cutPm from congrArg (List.map cutPm) HTK1.out.symm]
        refine (((HKL3_5.out.mod Cx45.out (by intro k h1 h2; omega) (by intro k h1 h2; rcases h1 with h1 | h1 <;> first | omega | (have hb := HBT.out k h1; omega))).mod Cx47.out (by intro k h1 h2; omega) (by intro k h1 h2; rcases h1 with h1 | h1 <;> first | omega | (have hb := HBT.out k h1; omega))).rd).widen ?_
        intro k h
        (try dsimp only at h ⊢)
        rcases h with h | h | h
        ·right; omega
        ·exact Or.inl h
        ·right; omega
       ·rw [show (cutBa x).os = (x.os.take k2).map cutOp from congrArg (List.map cutOp) HTK2.out.symm]
        refine (((HKL3_6.out.mod Cx45.out (by intro k h1 h2; omega) (by intro k h1 h2; rcases h1 with h1 | h1 <;> first | omega | (have hb := HBT.out k h1; omega))).mod Cx47.out (by intro k h1 h2; omega) (by intro k h1 h2; rcases h1 with h1 | h1 <;> first | omega | (have hb := HBT.out k h1; omega))).rd).widen ?_
        intro k h
        (try dsimp only at h ⊢)
        rcases h with h | h | h
        ·right; omega
        ·exact Or.inl h
        ·right; omega
       ·rw [show (cutBa x).ts = (x.ts.take k3).map cutTb from congrArg (List.map cutTb) HTK3.out.symm]
        refine (((HAL3.out.mod Cx45.out (by intro k h1 h2; omega) (by intro k h1 h2; rcases h1 with h1 | h1 <;> first | omega | (have hb := HBT.out k h1; omega))).mod Cx47.out (by intro k h1 h2; omega) (by intro k h1 h2; rcases h1 with h1 | h1 <;> first | omega | (have hb := HBT.out k h1; omega))).rd).widen ?_
        intro k h
        (try dsimp only at h ⊢)
        rcases h with h | h | h
        ·right; omega
        ·exact Or.inl h
        ·right; omega
end Go.Proofs.Ytknpapcfhnhheaa

/- Things stored in place: the i-th of a slice of one's own. No program here. -/
namespace Go.Gv
open Go Go.RowKit

/-- the first k are turned, the others not yet -/
def upto {α : Type} (f : α → α) (k : Nat) (l : List α) : List α := (l.take k).map f ++ l.drop k
section
variable {α : Type} {f : α → α} {k : Nat} {l : List α}
theorem upto_len : (upto f k l).length = l.length := by unfold upto; simp; omega
theorem upto_zero : upto f 0 l = l := by simp [upto]
theorem upto_all (h : l.length ≤ k) : upto f k l = l.map f := by unfold upto; rw [List.take_of_length_le h, List.drop_of_length_le h, List.append_nil]
theorem upto_get (h : k < l.length) : (upto f k l)[k]? = some l[k] := by
  unfold upto
  rw [List.getElem?_append_right (by simp; omega)]
  simp [Nat.min_eq_left (Nat.le_of_lt h), h]
theorem upto_set (h : k < l.length) : (upto f k l).set k (f l[k]) = upto f (k + 1) l := by
  unfold upto
  have h1 : ((l.take k).map f).length = k := by rw [List.length_map, List.length_take]; omega
  rw [List.set_append_right _ _ (by omega), h1, Nat.sub_self, List.drop_eq_getElem_cons h, List.take_succ_eq_append_getElem h, List.set_cons_zero, List.map_append, List.append_assoc]
  rfl
end
theorem flat_set {css : List (List Value)} {s : Nat} (h : ∀ cs ∈ css, cs.length = s) : ∀ (i : Nat) (cs : List Value), i < css.length → (css.set i cs).flatten = css.flatten.take (i * s) ++ cs ++ css.flatten.drop (i * s + s) := by
  induction css with
  | nil => intro i cs hi; simp at hi
  | cons c r ih =>
    intro i cs hi
    have hc : c.length = s := h c (by simp)
    cases i with
    | zero =>
      simp only [List.set_cons_zero, List.flatten_cons, Nat.zero_mul, List.take_zero, List.nil_append, Nat.zero_add]
      rw [List.drop_append_of_le_length (by omega), List.drop_of_length_le (by omega), List.nil_append]
    | succ i =>
      have h9 : (i + 1) * s = c.length + i * s := by rw [Nat.succ_mul, hc]; omega
      simp only [List.set_cons_succ, List.flatten_cons]
      rw [ih (fun x hx => h x (by simp [hx])) i cs (by simpa using hi), h9, List.take_length_add_append, Nat.add_assoc, List.drop_length_add_append]
      simp [List.append_assoc]
section
variable {α : Type} {A : Rep α} {e : TypeId} {R E R' : Nat → Prop} {w w' : World} {v : Value} {l : List α}
theorem OwS.at {ao : Option Addr} {n cap : Nat} (h : OwS A e R E w (.slice ao n cap) l) {i : Nat} {x : α} (hi : l[i]? = some x) :
    ∃ g cs cur, ao = some ⟨g, 0, none⟩ ∧ R g ∧ A.rd E w cs x ∧ (∀ j u, cs[j]? = some u → w.cell? ⟨g, 0 + i * A.sz + j, none⟩ = some u) ∧ Cs w g cur e ∧ i * A.sz + A.sz ≤ cur.size := by
  obtain ⟨css, h1, h2, ⟨hl, hE, h3⟩, h4⟩ := h
  have hil := (List.getElem?_eq_some_iff.1 hi).1
  have hcl := css_len h1 h2 (fun cs a h => A.len h)
  have hg1 : css[i]? = some css[i] := List.getElem?_eq_getElem (by omega)
  have hfl := flat_get hcl i css[i] hg1
  rcases h3 with ⟨he, h0⟩ | ⟨g, cap', cur, he, hc, k1, k2, k3, k4, k5⟩
  · omega
  · cases he
    have hm : i * A.sz + A.sz ≤ l.length * A.sz := by rw [← Nat.succ_mul]; exact Nat.mul_le_mul_right _ hil
    have hm2 := Nat.mul_le_mul_right A.sz k1
    refine ⟨g, css[i], cur, rfl, h4 g rfl, A.wid (h2 i _ x hg1 hi) (fun k h => h.1), fun j u hu => ?_, hc, by omega⟩
    have hj : j < A.sz := by have := (List.getElem?_eq_some_iff.1 hu).1; rw [hcl css[i] (List.getElem_mem _)] at this; exact this
    have h9 := hfl j u hu
    rw [← k4, List.getElem?_take, if_pos (by omega)] at h9
    rw [Nat.zero_add, hc.cell]
    simpa using h9
theorem OwS.put {g n cap i off : Nat} {cs : List Value} {x : α} {cur : Array Value} (h : OwS A e R E w (.slice (some ⟨g, 0, none⟩) n cap) l) (hi : i < l.length) (ho : off = i * A.sz) (hx : A.rd R' w cs x) (hR : ∀ k, R' k → E k ∧ ¬ R k)
    (hE : ∀ k, E k → ¬ R k) (hc : Cs w g cur e) (hc' : Cs w' g (lay cur off cs) e) (hm : Mod (fun k => k = g) w w') : OwS A e R E w' (.slice (some ⟨g, 0, none⟩) n cap) (l.set i x) := by
  subst ho
  obtain ⟨css, h1, h2, ⟨hl, hE1, h3⟩, h4⟩ := h
  have hg : R g := h4 g rfl
  have hcl := css_len h1 h2 (fun cs a h => A.len h)
  have hxl := A.len hx
  rcases h3 with ⟨he, h0⟩ | ⟨g', cap', cur', he, hc1, k1, k2, k3, k4, k5⟩
  · cases he
  cases he
  obtain rfl : cur = cur' := by have := hc.symm.trans hc1; cases this; rfl
  have hmm : i * A.sz + A.sz ≤ l.length * A.sz := by rw [← Nat.succ_mul]; exact Nat.mul_le_mul_right _ hi
  have hm2 := Nat.mul_le_mul_right A.sz k1
  have hsz : cur.toList.length = cur.size := by simp
  have hlen : (cur.toList.take (i * A.sz) ++ cs ++ cur.toList.drop (i * A.sz + cs.length)).length = cur.size := by simp; omega
  have hfs := flat_set hcl i cs (by omega)
  refine ⟨css.set i cs, by simp [h1], fun j c a hj ha => ?_, ⟨?_, ?_, .inr ⟨g, cap, _, by rw [List.length_set], hc', by rw [List.length_set]; exact k1, k2, ?_, ?_, ?_⟩⟩, fun k hk => h4 k hk⟩
  · by_cases hij : i = j
    · subst hij
      rw [List.getElem?_set_self (by omega)] at hj ha
      cases hj; cases ha
      refine A.keep (A.wid hx (fun k hk => ⟨(hR k hk).1, fun e => (hR k hk).2 (by cases e; exact hg)⟩)) ?_
      intro p u hp hu
      exact hm.cell hu (fun hS => hp.2 (by rw [hS]; rfl))
    · rw [List.getElem?_set_ne hij] at hj ha
      refine A.keep (h2 j c a hj ha) ?_
      intro p u hp hu
      exact hm.cell hu (fun hS => hp.2 (by rw [hS]; rfl))
  · have h6 : css.flatten.length = l.length * A.sz := hl
    rw [hfs, List.length_set, List.length_append, List.length_append, List.length_take, List.length_drop, h6, hxl]; omega
  · intro u hu
    rw [hfs] at hu
    simp only [List.mem_append] at hu
    rcases hu with (hu | hu) | hu
    · exact hE1 u (List.mem_of_mem_take hu)
    · exact A.one hx u hu
    · exact hE1 u (List.mem_of_mem_drop hu)
  · show cap * A.sz ≤ (lay cur (i * A.sz) cs).size
    unfold lay
    rw [List.size_toArray, hlen]
    exact k3
  · unfold lay
    rw [hfs, ← k4, List.length_set, hxl]
    show List.take (l.length * A.sz) (cur.toList.take (i * A.sz) ++ cs ++ cur.toList.drop (i * A.sz + A.sz)) = _
    rw [List.take_take, Nat.min_eq_left (by omega), List.append_assoc, List.take_append, List.take_append, List.drop_take]
    rw [List.take_take, Nat.min_eq_right (by omega)]
    rw [List.take_of_length_le (l := cs) (by simp; omega)]
    simp only [List.length_take, hsz, hxl, List.append_assoc]
    rw [show l.length * A.sz - min (i * A.sz) cur.size - A.sz = l.length * A.sz - (i * A.sz + A.sz) by omega]
  · intro u hu
    unfold lay at hu
    rw [List.toList_toArray] at hu
    simp only [List.mem_append] at hu
    rcases hu with (hu | hu) | hu
    · exact k5 u (List.mem_of_mem_take hu)
    · exact A.one hx u hu
    · exact k5 u (List.mem_of_mem_drop hu)
end
/-- one of the chain stores a thing over the i-th -/
theorem qc_putS {P : Program} {ops : Array Oper} {Q : Exit → Act → World → Prop} {i : Nat} {o : Oper} {a : Act} {w : World} {KQ : Value → World → Prop} {α : Type} {A : Rep α} {e ty : TypeId} {R E R' : Nat → Prop} {g n cap k off : Nat} {l : List α} {cs : List Value} {z : α} {x y : Operand}
    (ho : ops[i]? = some o) (hw : Region.wanted o (yielded ops a.tmps) = true) (hop : o.op = .store ty x y) (h : OwS A e R E w (.slice (some ⟨g, 0, none⟩) n cap) l) (hk : k < l.length) (hoff : off = k * A.sz) (hA : A.rd R' w cs z) (hR : ∀ k, R' k → E k ∧ ¬ R k) (hE : ∀ k, E k → ¬ R k)
    (hi : (P.info? ty).map (·.size) = some A.sz) (hx : a.eval x = .pointer (some ⟨g, off, none⟩)) (hy : (a.eval y).cells = cs.toArray)
    (hq : ∀ w', OwS A e R E w' (.slice (some ⟨g, 0, none⟩) n cap) (l.set k z) → Mod R w w' → KQ undef w') : wpOp P ops Q i (fun a' w' => ∃ v, a' = a.put o.dst v ∧ KQ v w') a w := by
  obtain ⟨g', cs0, cur, he, hg, -, -, hc, hsz⟩ := h.at (i := k) (x := l[k]) (List.getElem?_eq_getElem hk)
  cases he
  have hl := A.len hA
  refine qc_store ho hw hop hc (vs := cs) (by rw [hi, hl]) (A.one hA) (by rw [hl, hoff]; exact hsz) hx hy ?_
  intro w' h1 h2
  exact hq w' (h.put hk hoff hA hR hE hc h1 h2) (h2.mono (fun j _ hj => by rw [hj]; exact hg))
end Go.Gv
