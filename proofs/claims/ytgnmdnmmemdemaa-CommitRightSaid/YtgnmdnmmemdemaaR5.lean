/- Texts that are built one behind the other: XCm3, XCm4. No condition. -/
import Derived.Test.YtgnmdnmmemdemaaR4
import Derived.Deep.Cut
/- book.Book: signatures. -/
set_option maxRecDepth 100000
set_option linter.unusedVariables false
namespace Go.Proofs.Ytgnmdnmmemdemaa
open Go Go.RowKit Go.Gv
open Go.Maps (Keyed)

theorem strOf_inj {a b : List Int} (ha : Bytes a) (hb : Bytes b) (h : strOfNums a = strOfNums b) : a = b := by
  have h2 : a.map (fun n => UInt8.ofNat n.toNat) = b.map (fun n => UInt8.ofNat n.toNat) := by
    have := congrArg (fun s : ByteArray => s.data.toList) h
    simpa [strOfNums] using this
  clear h
  induction a generalizing b with
  | nil => cases b with
    | nil => rfl
    | cons y b => simp at h2
  | cons x a ih => cases b with
    | nil => simp at h2
    | cons y b =>
      simp only [List.map_cons, List.cons.injEq] at h2
      have hx := ha x (by simp)
      have hy := hb y (by simp)
      have e : x.toNat = y.toNat := by
        have := congrArg UInt8.toNat h2.1
        simp only [UInt8.toNat_ofNat'] at this
        omega
      rw [ih (fun z hz => ha z (by simp [hz])) (fun z hz => hb z (by simp [hz])) h2.2]
      congr 1
      omega
/-- a signed text as a key -/
def sgV (k : Int × List Int) : Value := .agg #[.int .i64 k.1, .string (strOfNums k.2)]
def SgK (k : Int × List Int) : Prop := I64 k.1 ∧ Bytes k.2 ∧ k.2.length ≤ 1000000
def mkV (n : Nat) : Value := .int .i64 n
theorem sg_key (k : Int × List Int) (h : SgK k) : ∃ l, keyOf Try.prog 117 (sgV k) = some l := by
  have hu := Try.underlying117
  have hkt : Try.prog.keyType 117 = true := by kernel_rfl
  have hc : Try.prog.cellsOf 117 = 2 := by kernel_rfl
  have hc1 : Try.prog.cellsOf 3 = 1 := by kernel_rfl
  have hc2 : Try.prog.cellsOf 9 = 1 := by kernel_rfl
  obtain ⟨n, hn⟩ : ∃ n, n + 2 = Try.prog.types.size + 1 := ⟨Try.prog.types.size - 1, by have : 0 < Try.prog.types.size := of_decide_eq_true (by kernel_rfl); omega⟩
  have hfm : (sgV k).formed Try.prog 117 = true := by simp [Value.formed, sgV, hu, hc]
  have hw : (Lit.int .i64 k.1).wf = true := by have := h.1; unfold I64 at this; simp [Lit.wf, IntKind.min, IntKind.max, IntKind.signed, IntKind.bits]; omega
  have hs : (strOfNums k.2).size ≤ maxLen := by rw [strOfNums_size, maxLen_val]; have := h.2.2; omega
  unfold keyOf
  rw [hu]
  simp only [hkt, hfm, Bool.and_self, if_true, ← hn]
  have e1 : Try.prog.keyLits (n + 1) 3 [.int .i64 k.1] = some [.int .i64 k.1] := by
    unfold Program.keyLits
    rw [Try.underlying3]
    simp [hw]
  have e2 : Try.prog.keyLits (n + 1) 9 [.string (strOfNums k.2)] = some [.string (strOfNums k.2).data.toList] := by
    unfold Program.keyLits
    rw [Try.underlying9]
    simp [hs]
  have hk : Try.prog.keyLits (n + 2) 117 (sgV k).cells.toList = some [.int .i64 k.1, .string (strOfNums k.2).data.toList] := by
    unfold Program.keyLits
    rw [hu]
    simp [sgV, Value.cells, hc, hc1, hc2, e1, e2]
  exact ⟨_, by rw [hk]; rfl⟩
theorem sg_enc : KeyEnc Try.prog 117 sgV SgK where
  law := Keyed.of_law (deep_law_laid laidOutX (m := 3) (by omega) (of_decide_eq_true (by kernel_rfl)) (by kernel_rfl) (by kernel_rfl))
  key := sg_key
  inj := fun a b ha hb h => by
    unfold sgV at h
    simp only [Value.agg.injEq, Array.mk.injEq, List.cons.injEq, Value.int.injEq, Value.string.injEq, true_and, and_true] at h
    obtain ⟨a1, a2⟩ := a
    obtain ⟨b1, b2⟩ := b
    simp only at h
    have e := strOf_inj ha.2.1 hb.2.1 h.2
    simp only at e
    rw [h.1, e]
/-- each signed text has its place as its mark -/
def marksFrom : Nat → List (Int × List Int) → List ((Int × List Int) × Nat)
  | _, [] => []
  | n, k :: L => (k, n + 1) :: marksFrom (n + 1) L
/-- the mark of a text; 0: none -/
def mkN (L : List (Int × List Int)) (k : Int × List Int) : Nat := (mlook (marksFrom 0 L) k).getD 0
theorem marks_len : ∀ (n : Nat) (L : List (Int × List Int)), (marksFrom n L).length = L.length
  | _, [] => rfl
  | n, k :: L => by simp [marksFrom, marks_len (n + 1) L]
theorem marks_put : ∀ (n : Nat) (L : List (Int × List Int)) (k : Int × List Int), mlook (marksFrom n L) k = none → mput (marksFrom n L) k (n + L.length + 1) = marksFrom n (L ++ [k])
  | n, [], k, h => rfl
  | n, x :: L, k, h => by
    simp only [marksFrom, mlook_cons] at h
    by_cases e : x = k
    · rw [if_pos e] at h; cases h
    · rw [if_neg e] at h
      simp only [marksFrom, mput, if_neg e, List.cons_append, List.length_cons]
      rw [← marks_put (n + 1) L k h]
      congr 2
      omega
theorem marks_pos : ∀ (n : Nat) (L : List (Int × List Int)) (k : Int × List Int) (m : Nat), mlook (marksFrom n L) k = some m → n < m ∧ m ≤ n + L.length
  | n, [], k, m, h => by cases h
  | n, x :: L, k, m, h => by
    simp only [marksFrom, mlook_cons] at h
    split at h
    · cases h; exact ⟨by omega, by simp only [List.length_cons]; omega⟩
    · have := marks_pos (n + 1) L k m h
      simp; omega
/-- was this text signed with this mark? -/
def rightF (L : List (Int × List Int)) (k : Int × List Int) (m : Int) : Bool := decide (mkN L k ≠ 0) && ((mkN L k : Int) == m)
/-- what a book says -/
structure BookIs (w : World) (g b : Nat) (L : List (Int × List Int)) : Prop where
  cell : Cs w g #[.map (some b)] 93
  map : MapIs w b sgV mkV SgK (marksFrom 0 L)
theorem BookIs.mod {S : Nat → Prop} {w w' : World} {g b : Nat} {L : List (Int × List Int)} (h : BookIs w g b L) (hm : Mod S w w') (h1 : ¬ S g) (h2 : ¬ S b) : BookIs w' g b L := ⟨h.cell.mod hm h1, h.map.mod hm h2⟩
theorem BookIs.ne {w : World} {g b : Nat} {L : List (Int × List Int)} (h : BookIs w g b L) : ¬ g = b := by
  rintro rfl
  obtain ⟨⟨es, clock, hb, -⟩, -, -⟩ := h.map
  have := h.cell
  unfold Cs at this
  rw [hb] at this
  cases this
theorem book_look (L : List (Int × List Int)) (k : Int × List Int) : ((mlook (marksFrom 0 L) k).map mkV).getD (.int .i64 0) = .int .i64 (mkN L k) := by
  unfold mkN
  cases mlook (marksFrom 0 L) k <;> rfl
set_option maxHeartbeats 1000000 in
theorem Book_new (w : World) : Calls Try.prog 18 #[] w fun e w' => ∃ g b, e = .returned (.pointer (some ⟨g, 0, none⟩)) ∧ w.heap.size ≤ g ∧ w.heap.size ≤ b ∧ BookIs w' g b [] ∧ Mod (fun _ => False) w w' := by
  go_enter Try.func18, Try.ntmps18
  go_wp2_with (refine wpList_makeMap rfl 91 rfl ?_)
  go_ret
  refine ⟨w.heap.size + 1, w.heap.size, rfl, by omega, by omega, ⟨?_, ?_⟩, ((Mod.refl _ _).alloc _).alloc _⟩
  · exact Cs_new1 _ _ _ _
  · exact (MapIs.made w sgV mkV SgK).mod ((Mod.refl (fun _ => False) _).alloc _) (fun h => h)
set_option maxHeartbeats 1000000 in
theorem Book_right {w : World} {g b : Nat} {L : List (Int × List Int)} (h : BookIs w g b L) (y m : Int) {v : Value} {bs : List Int} (hr : RdB w v bs) (hk : SgK (y, bs)) :
    Calls Try.prog 56 #[.pointer (some ⟨g, 0, none⟩), .agg #[.int .i64 y, .int .i64 m], v] w fun e w' => e = .returned (.bool (rightF L (y, bs) m)) ∧ Mod (fun _ => False) w w' := by
  have HS := Lib.hid h
  have HR := Lib.hid hr
  have HK := Lib.hid hk
  clear h hr hk
  go_enter Try.func56, Try.ntmps56
  go_upto_region 1 with (fail)
  obtain ⟨w1, hw1⟩ : ∃ x, x = w.alloc (.cells #[.int .i64 y, .int .i64 m] 30) := ⟨_, rfl⟩
  rw [← hw1]
  have KC := Lib.hid (show Cs w1 w.heap.size #[.int .i64 y, .int .i64 m] 30 by rw [hw1]; exact Cs.new _ _ _)
  have KM := Lib.hid (show Mod (fun _ => False) w w1 by rw [hw1]; exact (Mod.refl _ _).alloc _)
  have HS1 := Lib.hid (HS.out.mod KM.out (fun h => h) (fun h => h))
  clear hw1
  generalize ha0 : Act.mk _ _ = a0
  have oe0 : a0.eval (.tmp 0) = .pointer (some ⟨g, 0, none⟩) := by rw [← ha0]; rfl
  have oe2 : a0.eval (.tmp 2) = v := by rw [← ha0]; rfl
  have oe4 : a0.eval (.tmp 4) = .pointer (some ⟨w.heap.size, 0, none⟩) := by rw [← ha0]; rfl
  have hsz0 : a0.tmps.size = 26 := by rw [← ha0]; rfl
  have HA0 := Lib.hid ha0
  clear ha0
  refine wp_region_G 26 hsz0 (by kernel_rfl) (by kernel_rfl) [8, 9, 10, 11, 12, 13, 14, 15, 16, 17, 7] (by kernel_rfl) (by decide) (fun _ => False) (fun _ _ => False) (fun _ _ h => h) Still (fun _ _ _ h => h) (fun _ _ _ hm h => hm.trans h (fun _ _ h => h.elim)) [gi (.pointer (some ⟨g, 0, none⟩)), gi (.pointer (some ⟨g, 0, none⟩)), gi (.pointer (some ⟨g, 0, none⟩)), gi (.map (some b)), gi (.pointer (some ⟨w.heap.size, 0, none⟩)), gi (.int .i64 y), gi (v), gi (.string (strOfNums bs)), gi (sgV (y, bs)), gi (.int .i64 (mkN L (y, bs))), gi (.int .i64 (mkN L (y, bs)))] ⟨gi_stable, gi_stable, gi_stable, gi_stable, gi_stable, gi_stable, gi_stable, gi_stable, gi_stable, gi_stable, gi_stable, trivial⟩ [] (by kernel_rfl) (by decide) (by kernel_rfl) (fun _ _ => True) (fun _ _ _ _ _ => trivial) trivial ⟨?_, ?_, ?_, ?_, ?_, ?_, ?_, ?_, ?_, ?_, ?_, trivial⟩ ?_
  · intro tr act w' hm hout hsz hd hG hk hub
    exact jg_run (by rfl) rfl (wanted_none rfl) (ex_move rfl ((hout 0 (by decide)).trans oe0)) (Mod.refl _ _) rfl
  · intro tr act w' hm hout hsz hd hG hk hub
    have h0 := hd ⟨0, .data⟩ (by simp) rfl _ rfl
    exact jg_run (by rfl) rfl (wanted_none rfl) (ex_nil rfl h0) (Mod.refl _ _) rfl
  · intro tr act w' hm hout hsz hd hG hk hub
    have h1 := hd ⟨1, .data⟩ (by simp) rfl _ rfl
    refine jg_run (by rfl) rfl (wanted_none rfl) (ex_field rfl Try.underlying93 rfl (by kernel_rfl) h1) (Mod.refl _ _) ?_
    rfl
  · intro tr act w' hm hout hsz hd hG hk hub
    have h2 := hd ⟨2, .data⟩ (by simp) rfl _ rfl
    exact jg_run (by rfl) rfl (wanted_none rfl) (ex_load1 rfl Try.underlying91 rfl h2 (by rw [(HS1.out.cell.mod hm (fun h => h)).cell]; rfl)) (Mod.refl _ _) rfl
  · intro tr act w' hm hout hsz hd hG hk hub
    refine jg_run (by rfl) rfl (wanted_none rfl) (ex_field rfl Try.underlying30 rfl (by kernel_rfl) ((hout 4 (by decide)).trans oe4)) (Mod.refl _ _) ?_
    rfl
  · intro tr act w' hm hout hsz hd hG hk hub
    have h4 := hd ⟨4, .data⟩ (by simp) rfl _ rfl
    exact jg_run (by rfl) rfl (wanted_none rfl) (ex_load1 rfl Try.underlying3 rfl h4 (by rw [(KC.out.mod hm (fun h => h)).cell]; rfl)) (Mod.refl _ _) rfl
  · intro tr act w' hm hout hsz hd hG hk hub
    exact jg_run (by rfl) rfl (wanted_none rfl) (ex_move rfl ((hout 2 (by decide)).trans oe2)) (Mod.refl _ _) rfl
  · intro tr act w' hm hout hsz hd hG hk hub
    have h6 := hd ⟨6, .data⟩ (by simp) rfl _ rfl
    exact jg_run (by rfl) rfl (wanted_none rfl) (ex_conv rfl h6 (bytes_string (HR.out.mod (KM.out.trans hm (fun _ _ h => h)) (fun _ _ _ h => h)))) (Mod.refl _ _) rfl
  · intro tr act w' hm hout hsz hd hG hk hub
    have h5 := hd ⟨5, .data⟩ (by simp) rfl _ rfl
    have h7 := hd ⟨7, .data⟩ (by simp) rfl _ rfl
    exact jg_run (by rfl) rfl (wanted_none rfl) (ex_build rfl (z := [.int .i64 0, .string ByteArray.empty]) (places := [(0, 1), (1, 1)]) (by kernel_rfl) (parts := [(0, .int .i64 y), (1, .string (strOfNums bs))]) (by simp only [List.map_toArray, List.map_cons, List.map_nil, show act.eval (.tmp 13) = _ from h5, show act.eval (.tmp 15) = _ from h7]; try rfl) (r := [.int .i64 y, .string (strOfNums bs)]) (by rfl)) (Mod.refl _ _) rfl
  · intro tr act w' hm hout hsz hd hG hk hub
    have h3 := hd ⟨3, .data⟩ (by simp) rfl _ rfl
    have h8 := hd ⟨8, .data⟩ (by simp) rfl _ rfl
    refine jg_run (by rfl) rfl (wanted_none rfl) (ex_lookup rfl h3 h8 ((HS1.out.map.mod hm (fun h => h)).lookup sg_enc Try.underlying91 (zero_run zero_int _) (y, bs) HK.out false)) (Mod.refl _ _) ?_
    exact book_look L (y, bs)
  · intro tr act w' hm hout hsz hd hG hk hub
    have h9 := hd ⟨9, .data⟩ (by simp) rfl _ rfl
    exact jg_run (by rfl) rfl (wanted_none rfl) (ex_assign rfl h9) (Mod.refl _ _) rfl
  intro vs tr w2 hl htl hm hG hV
  obtain ⟨v0, vs0, rfl, hl0⟩ := list_cons hl
  obtain ⟨v1, vs1, rfl, hl1⟩ := list_cons hl0
  obtain ⟨v2, vs2, rfl, hl2⟩ := list_cons hl1
  obtain ⟨v3, vs3, rfl, hl3⟩ := list_cons hl2
  obtain ⟨v4, vs4, rfl, hl4⟩ := list_cons hl3
  obtain ⟨v5, vs5, rfl, hl5⟩ := list_cons hl4
  obtain ⟨v6, vs6, rfl, hl6⟩ := list_cons hl5
  obtain ⟨v7, vs7, rfl, hl7⟩ := list_cons hl6
  obtain ⟨v8, vs8, rfl, hl8⟩ := list_cons hl7
  obtain ⟨v9, vs9, rfl, hl9⟩ := list_cons hl8
  obtain ⟨v10, vs10, rfl, hl10⟩ := list_cons hl9
  obtain rfl := list_nil hl10
  clear hl hl0 hl1 hl2 hl3 hl4 hl5 hl6 hl7 hl8 hl9 hl10
  obtain rfl : v10 = .int .i64 (mkN L (y, bs)) := hV 10 _ rfl
  have ha0 := HA0.out
  subst ha0
  clear HA0 hV hsz0 oe0 oe2 oe4
  simp only [putAll, Act.put, List.setIfInBounds_toArray, List.set_cons_zero, List.set_cons_succ]
  have KM2 := Lib.hid (KM.out.trans hm (fun _ _ h => h))
  have hc := (KC.out.mod hm (fun h => h)).cell 1
  have hc1 : w2.cell? ⟨w.heap.size, 1, none⟩ = some (.int .i64 m) := by rw [hc]; rfl
  clear hm hG hc
  obtain ⟨n, hn⟩ : ∃ n : Int, n = mkN L (y, bs) := ⟨_, rfl⟩
  rw [← hn]
  have HN := Lib.hid hn
  clear hn
  by_cases h0 : 0 < n
  · go_wp2
    go_ret
    exact ⟨congrArg (fun z => Ending.returned (Value.bool z)) (show (n == m) = rightF L (y, bs) m by unfold rightF; rw [← HN.out, decide_eq_true (show mkN L (y, bs) ≠ 0 by have := HN.out; omega)]; rfl), KM2.out⟩
  · go_wp2
    go_ret
    exact ⟨congrArg (fun z => Ending.returned (Value.bool z)) (show false = rightF L (y, bs) m by unfold rightF; rw [← HN.out, decide_eq_false (show ¬ mkN L (y, bs) ≠ 0 by have := HN.out; omega)]; rfl), KM2.out⟩
def signF (L : List (Int × List Int)) (k : Int × List Int) : List (Int × List Int) := if mkN L k = 0 then L ++ [k] else L
def SnSt (b : Nat) (l l' : List ((Int × List Int) × Nat)) : Nat → List Value → World → Prop := fun k _ w => match k with
  | 0 => MapIs w b sgV mkV SgK l
  | _ => MapIs w b sgV mkV SgK l'
theorem SnSt_still {b : Nat} {l l' : List ((Int × List Int) × Nat)} : ∀ k t w w', SnSt b l l' k t w → Mod (fun _ => False) w w' → SnSt b l l' k t w' := by
  intro k t w w' h hm
  match k, h with
  | 0, h => exact MapIs.mod h hm (fun h => h)
  | k + 1, h => exact MapIs.mod h hm (fun h => h)
def ResSt (g : Nat) (T : TypeId) (z c : List Value) : Nat → List Value → World → Prop := fun k _ w => match k with
  | 0 => Cs w g z.toArray T
  | _ => Cs w g c.toArray T
theorem ResSt_still {g : Nat} {T : TypeId} {z c : List Value} : ∀ k t w w', ResSt g T z c k t w → Mod (fun _ => False) w w' → ResSt g T z c k t w' := by
  intro k t w w' h hm
  match k, h with
  | 0, h => exact Cs.mod h hm (fun h => h)
  | k + 1, h => exact Cs.mod h hm (fun h => h)
theorem mkN_none {L : List (Int × List Int)} {k : Int × List Int} (h : mkN L k = 0) : mlook (marksFrom 0 L) k = none := by
  unfold mkN at h
  cases hl : mlook (marksFrom 0 L) k with
  | none => rfl
  | some m => rw [hl] at h; have := (marks_pos 0 L k m hl).1; simp at h; omega
set_option maxHeartbeats 2000000 in
theorem Book_sign {w : World} {g b : Nat} {L : List (Int × List Int)} (h : BookIs w g b L) (y : Int) {v : Value} {bs : List Int} (hr : RdB w v bs) (hk : SgK (y, bs)) (hL : L.length ≤ 1000000) :
    Calls Try.prog 53 #[.pointer (some ⟨g, 0, none⟩), .int .i64 y, v] w fun e w' => ∃ m, e = .returned (.agg (#[.int .i64 y, .int .i64 m])) ∧ m = (mkN (signF L (y, bs)) (y, bs) : Int) ∧ BookIs w' g b (signF L (y, bs)) ∧ Mod (fun k => k = b) w w' := by
  have HS := Lib.hid h
  have HNE := Lib.hid h.ne
  have zg := h.cell.lt
  have zb := h.map.lt
  have HR := Lib.hid hr
  have hbl := hr.block_lt
  have HK := Lib.hid hk
  have HLL := Lib.hid hL
  clear h hr hk hL
  go_enter Try.func53, Try.ntmps53
  go_upto_region 1 with (fail)
  obtain ⟨w1, hw1⟩ : ∃ x, x = w.alloc (.cells #[.int .i64 0, .int .i64 0] 30) := ⟨_, rfl⟩
  change Code.wp _ _ _ _ (w.alloc (.cells #[.int .i64 0, .int .i64 0] 30))
  rw [← hw1]
  have KR0 := Lib.hid (show Cs w1 w.heap.size #[.int .i64 0, .int .i64 0] 30 by rw [hw1]; exact Cs.new _ _ _)
  have KM := Lib.hid (show Mod (fun _ => False) w w1 by rw [hw1]; exact (Mod.refl _ _).alloc _)
  have hs1 : w1.heap.size = w.heap.size + 1 := by rw [hw1]; simp
  clear hw1
  obtain ⟨B, hBB⟩ : ∃ B, B = w1.heap.size := ⟨_, rfl⟩
  have HBE := Lib.hid hBB
  have hB3 : B = w.heap.size + 1 := by omega
  have HAP := Lib.hid (show Apart v bs.length (fun j => B ≤ j) from fun h0 g hg h => by have := hbl h0 g hg; omega)
  clear hBB hbl
  generalize ha0 : Act.mk _ _ = a0
  have oe1 : a0.eval (.tmp 1) = .int .i64 y := by rw [← ha0]; rfl
  have oe2 : a0.eval (.tmp 2) = v := by rw [← ha0]; rfl
  have hsz0 : a0.tmps.size = 38 := by rw [← ha0]; rfl
  have HA0 := Lib.hid ha0
  clear ha0
  refine wp_region_G 38 hsz0 (by kernel_rfl) (by kernel_rfl) [8, 9, 10, 11, 7, 43] (by kernel_rfl) (by decide) (fun j => B ≤ j) (fun k j => k = 1 ∧ B ≤ j) (fun k j h => h.2) Still (fun _ _ _ h => h) (fun _ _ _ hm h => hm.trans h (fun _ _ h => h.elim)) [gi (.int .i64 y), gi (v), gi (.string (strOfNums bs)), gi (sgV (y, bs)), gv 0, gv 1] ⟨gi_stable, gi_stable, gi_stable, gi_stable, gv_stable, gv_stable, trivial⟩ [4, 5] (by kernel_rfl) (by decide) (by kernel_rfl) (ByLen (AlSt B 117 [.int .i64 0, .string ByteArray.empty] [.int .i64 y, .string (strOfNums bs)])) (ByLen.still AlSt_still) ⟨Nat.le_of_eq HBE.out, trivial⟩ ⟨?_, ?_, ?_, ?_, ?_, ?_, trivial⟩ ?_
  · intro tr act w' hm hout hsz hd hG hk hub
    exact jg_run (by rfl) rfl (wanted_none rfl) (ex_move rfl ((hout 1 (by decide)).trans oe1)) (Mod.refl _ _) rfl
  · intro tr act w' hm hout hsz hd hG hk hub
    exact jg_run (by rfl) rfl (wanted_none rfl) (ex_move rfl ((hout 2 (by decide)).trans oe2)) (Mod.refl _ _) rfl
  · intro tr act w' hm hout hsz hd hG hk hub
    have h1 := hd ⟨1, .data⟩ (by simp) rfl _ rfl
    exact jg_run (by rfl) rfl (wanted_none rfl) (ex_conv rfl h1 (bytes_string ((HR.out.mod KM.out (fun _ _ _ h => h)).mod hm HAP.out))) (Mod.refl _ _) rfl
  · intro tr act w' hm hout hsz hd hG hk hub
    have h0 := hd ⟨0, .data⟩ (by simp) rfl _ rfl
    have h2 := hd ⟨2, .data⟩ (by simp) rfl _ rfl
    exact jg_run (by rfl) rfl (wanted_none rfl) (ex_build rfl (z := [.int .i64 0, .string ByteArray.empty]) (places := [(0, 1), (1, 1)]) (by kernel_rfl) (parts := [(0, .int .i64 y), (1, .string (strOfNums bs))]) (by simp only [List.map_toArray, List.map_cons, List.map_nil, show act.eval (.tmp 8) = _ from h0, show act.eval (.tmp 10) = _ from h2]; try rfl) (r := [.int .i64 y, .string (strOfNums bs)]) (by rfl)) (Mod.refl _ _) rfl
  · intro tr act w' hm hout hsz hd hG hk hub
    have hl := hk 0 rfl
    obtain ⟨info, hi, hz⟩ := zero_of (show (Try.prog.info? 117).bind (·.zero) = some (.agg ([.int .i64 0, .string ByteArray.empty] : List Value).toArray) by kernel_rfl)
    exact jc_run (by rfl) rfl (wanted_none rfl) (ex_alloc rfl hi hz) ((Mod.refl _ _).alloc _) (gv_new tr _ w' hl) (AlSt_new hG hl)
  · intro tr act w' hm hout hsz hd hG hk hub
    have h3 := hd ⟨3, .data⟩ (by simp) rfl _ rfl
    have h4 := hd ⟨4, .data⟩ (by simp) rfl _ rfl
    have hl := hk 1 rfl
    obtain ⟨q, e1, hB, hq, hnext⟩ := AlSt_put hG hl
    have ep : act.eval (.tmp 7) = .pointer (some ⟨q, 0, none⟩) := Option.some.inj (Eq.trans (Eq.symm h4) e1)
    exact jc_turn (by rfl) rfl (wanted_none rfl) (ex_storeA rfl hq (off := 0) (vs := [.int .i64 y, .string (strOfNums bs)]) (by kernel_rfl) (by intro u hu; simp at hu; rcases hu with rfl | rfl <;> rfl) (by simp) ep (by rw [show act.eval (.tmp 11) = _ from h3]; rfl)) (setRow_Mod.mono (fun k _ h => by subst h; exact ⟨hl, hB⟩)) (gv_new tr _ w' hl) (hnext (by rfl))
  intro vs tr w2 hl htl hm hG hV
  obtain ⟨v0, vs0, rfl, hl0⟩ := list_cons hl
  obtain ⟨v1, vs1, rfl, hl1⟩ := list_cons hl0
  obtain ⟨v2, vs2, rfl, hl2⟩ := list_cons hl1
  obtain ⟨v3, vs3, rfl, hl3⟩ := list_cons hl2
  obtain ⟨v4, vs4, rfl, hl4⟩ := list_cons hl3
  obtain ⟨v5, vs5, rfl, hl5⟩ := list_cons hl4
  obtain rfl := list_nil hl5
  clear hl hl0 hl1 hl2 hl3 hl4 hl5
  have f4 := hV 4 _ rfl
  have ha0 := HA0.out
  subst ha0
  clear HA0 hV hsz0 oe1 oe2
  simp only [putAll, Act.put, List.setIfInBounds_toArray, List.set_cons_zero, List.set_cons_succ, List.set_nil]
  obtain ⟨-, q, e1, hqB, hq⟩ := hG.at htl
  obtain rfl : v4 = _ := Option.some.inj (Eq.trans (Eq.symm f4) e1)
  have KQ := Lib.hid (show Cs w2 q [.int .i64 y, .string (strOfNums bs)].toArray 117 from hq)
  have KM2 := Lib.hid (KM.out.trans hm (fun k h1 h2 => by omega))
  have KR2 := Lib.hid (KR0.out.mod hm (by omega))
  have HS2 := Lib.hid (HS.out.mod KM2.out (fun h => h) (fun h => h))
  have HQB := Lib.hid (show ¬ q = b by omega)
  clear hG hm hq f4 e1 htl
  by_cases hz : mkN L (y, bs) = 0
  · have HZ := Lib.hid (show (((mkN L (y, bs) : Nat) : Int) == 0) = true by rw [hz]; rfl)
    have HNO := Lib.hid (mkN_none hz)
    have HSF := Lib.hid (show signF L (y, bs) = L ++ [(y, bs)] by unfold signF; rw [if_pos hz])
    have HSN := Lib.hid (show signF L (y, bs) = L ++ [(y, bs)] by unfold signF; rw [if_pos hz])
    clear hz
    go_upto_region 2 with (fail)
    generalize ha0 : Act.mk _ _ = a0
    have oe0 : a0.eval (.tmp 0) = .pointer (some ⟨g, 0, none⟩) := by rw [← ha0]; rfl
    have oe1 : a0.eval (.tmp 1) = .int .i64 y := by rw [← ha0]; rfl
    have oe6 : a0.eval (.tmp 6) = .pointer (some ⟨w.heap.size, 0, none⟩) := by rw [← ha0]; rfl
    have oe7 : a0.eval (.tmp 7) = .pointer (some ⟨q, 0, none⟩) := by rw [← ha0]; rfl
    have hsz0 : a0.tmps.size = 38 := by rw [← ha0]; rfl
    have HA0 := Lib.hid ha0
    clear ha0
    refine wp_region_G 38 hsz0 (by kernel_rfl) (by kernel_rfl) [12, 13, 14, 15, 16, 17, 18] (by kernel_rfl) (by decide) (fun _ => False) (fun _ _ => False) (fun _ _ h => h) Still (fun _ _ _ h => h) (fun _ _ _ hm h => hm.trans h (fun _ _ h => h.elim)) [gi (.pointer (some ⟨g, 0, none⟩)), gi (.pointer (some ⟨g, 0, none⟩)), gi (.pointer (some ⟨g, 0, none⟩)), gi (.map (some b)), gi (sgV (y, bs)), gi (.int .i64 (mkN L (y, bs))), gi (.bool true)] ⟨gi_stable, gi_stable, gi_stable, gi_stable, gi_stable, gi_stable, gi_stable, trivial⟩ [] (by kernel_rfl) (by decide) (by kernel_rfl) (fun _ _ => True) (fun _ _ _ _ _ => trivial) trivial ⟨?_, ?_, ?_, ?_, ?_, ?_, ?_, trivial⟩ ?_
    · intro tr act w' hm hout hsz hd hG hk hub
      exact jg_run (by rfl) rfl (wanted_none rfl) (ex_move rfl ((hout 0 (by decide)).trans oe0)) (Mod.refl _ _) rfl
    · intro tr act w' hm hout hsz hd hG hk hub
      have h0 := hd ⟨0, .data⟩ (by simp) rfl _ rfl
      exact jg_run (by rfl) rfl (wanted_none rfl) (ex_nil rfl h0) (Mod.refl _ _) rfl
    · intro tr act w' hm hout hsz hd hG hk hub
      have h1 := hd ⟨1, .data⟩ (by simp) rfl _ rfl
      refine jg_run (by rfl) rfl (wanted_none rfl) (ex_field rfl Try.underlying93 rfl (by kernel_rfl) h1) (Mod.refl _ _) ?_
      rfl
    · intro tr act w' hm hout hsz hd hG hk hub
      have h2 := hd ⟨2, .data⟩ (by simp) rfl _ rfl
      exact jg_run (by rfl) rfl (wanted_none rfl) (ex_load1 rfl Try.underlying91 rfl h2 (by rw [(HS2.out.cell.mod hm (fun h => h)).cell]; rfl)) (Mod.refl _ _) rfl
    · intro tr act w' hm hout hsz hd hG hk hub
      exact jg_run (by rfl) rfl (wanted_none rfl) (ex_loadA rfl Try.underlying117 rfl (off := 0) (cs := [.int .i64 y, .string (strOfNums bs)]) (by kernel_rfl) ((hout 7 (by decide)).trans oe7) (Cs.whole (KQ.out.mod hm (fun h => h)))) (Mod.refl _ _) rfl
    · intro tr act w' hm hout hsz hd hG hk hub
      have h3 := hd ⟨3, .data⟩ (by simp) rfl _ rfl
      have h4 := hd ⟨4, .data⟩ (by simp) rfl _ rfl
      refine jg_run (by rfl) rfl (wanted_none rfl) (ex_lookup rfl h3 h4 ((HS2.out.map.mod hm (fun h => h)).lookup sg_enc Try.underlying91 (zero_run zero_int _) (y, bs) HK.out false)) (Mod.refl _ _) ?_
      exact book_look L (y, bs)
    · intro tr act w' hm hout hsz hd hG hk hub
      have h5 := hd ⟨5, .data⟩ (by simp) rfl _ rfl
      refine jg_run (by rfl) rfl (wanted_none rfl) (ex_bin rfl h5 rfl (guard_ints _ _ _ _ _ _) (run_eql_i _ _ _ Try.underlying3)) (Mod.refl _ _) ?_
      exact congrArg Value.bool HZ.out
    intro vs tr w3 hl htl hm hG hV
    obtain ⟨v0, vs0, rfl, hl0⟩ := list_cons hl
    obtain ⟨v1, vs1, rfl, hl1⟩ := list_cons hl0
    obtain ⟨v2, vs2, rfl, hl2⟩ := list_cons hl1
    obtain ⟨v3, vs3, rfl, hl3⟩ := list_cons hl2
    obtain ⟨v4, vs4, rfl, hl4⟩ := list_cons hl3
    obtain ⟨v5, vs5, rfl, hl5⟩ := list_cons hl4
    obtain ⟨v6, vs6, rfl, hl6⟩ := list_cons hl5
    obtain rfl := list_nil hl6
    clear hl hl0 hl1 hl2 hl3 hl4 hl5 hl6
    obtain rfl : v6 = .bool true := hV 6 _ rfl
    have ha0 := HA0.out
    subst ha0
    clear HA0 hV hsz0 oe0 oe1 oe6 oe7
    simp only [putAll, Act.put, List.setIfInBounds_toArray, List.set_cons_zero, List.set_cons_succ]
    have KM3 := Lib.hid (KM2.out.trans hm (fun _ _ h => h))
    have KQ3 := Lib.hid (KQ.out.mod hm (fun h => h))
    have KR3 := Lib.hid (KR2.out.mod hm (fun h => h))
    have HS3 := Lib.hid (HS2.out.mod hm (fun h => h) (fun h => h))
    clear hG hm KM2 KQ KR2 HS2
    have KQ := Lib.hid KQ3.out
    have HS2 := Lib.hid HS3.out
    clear KQ3 HS3
    go_upto_region 3 with (fail)
    generalize ha0 : Act.mk _ _ = a0
    have oe0 : a0.eval (.tmp 0) = .pointer (some ⟨g, 0, none⟩) := by rw [← ha0]; rfl
    have oe1 : a0.eval (.tmp 1) = .int .i64 y := by rw [← ha0]; rfl
    have oe6 : a0.eval (.tmp 6) = .pointer (some ⟨w.heap.size, 0, none⟩) := by rw [← ha0]; rfl
    have oe7 : a0.eval (.tmp 7) = .pointer (some ⟨q, 0, none⟩) := by rw [← ha0]; rfl
    have hsz0 : a0.tmps.size = 38 := by rw [← ha0]; rfl
    have HA0 := Lib.hid ha0
    clear ha0
    refine wp_region_G 38 hsz0 (by kernel_rfl) (by kernel_rfl) [19, 20, 21, 22, 23, 24, 25, 26, 27, 28, 29, 49] (by kernel_rfl) (by decide) (fun k => k = b) (fun _ k => k = b) (fun _ _ h => h) Still (fun _ _ _ h => h) (fun _ _ _ hm h => hm.trans h (fun _ _ h => h.elim)) [gi (.pointer (some ⟨g, 0, none⟩)), gi (.pointer (some ⟨g, 0, none⟩)), gi (.pointer (some ⟨g, 0, none⟩)), gi (.map (some b)), gi (sgV (y, bs)), gi (.pointer (some ⟨g, 0, none⟩)), gi (.pointer (some ⟨g, 0, none⟩)), gi (.pointer (some ⟨g, 0, none⟩)), gi (.map (some b)), gi (mkV L.length), gi (mkV (L.length + 1)), ga] ⟨gi_stable, gi_stable, gi_stable, gi_stable, gi_stable, gi_stable, gi_stable, gi_stable, gi_stable, gi_stable, gi_stable, ga_stable, trivial⟩ [11] (by kernel_rfl) (by decide) (by kernel_rfl) (ByLen (SnSt b (marksFrom 0 L) (marksFrom 0 (L ++ [(y, bs)])))) (ByLen.still SnSt_still) HS2.out.map ⟨?_, ?_, ?_, ?_, ?_, ?_, ?_, ?_, ?_, ?_, ?_, ?_, trivial⟩ ?_
    · intro tr act w' hm hout hsz hd hG hk hub
      exact jg_run (by rfl) rfl (wanted_none rfl) (ex_move rfl ((hout 0 (by decide)).trans oe0)) (Mod.refl _ _) rfl
    · intro tr act w' hm hout hsz hd hG hk hub
      have h0 := hd ⟨0, .data⟩ (by simp) rfl _ rfl
      exact jg_run (by rfl) rfl (wanted_none rfl) (ex_nil rfl h0) (Mod.refl _ _) rfl
    · intro tr act w' hm hout hsz hd hG hk hub
      have h1 := hd ⟨1, .data⟩ (by simp) rfl _ rfl
      refine jg_run (by rfl) rfl (wanted_none rfl) (ex_field rfl Try.underlying93 rfl (by kernel_rfl) h1) (Mod.refl _ _) ?_
      rfl
    · intro tr act w' hm hout hsz hd hG hk hub
      have h2 := hd ⟨2, .data⟩ (by simp) rfl _ rfl
      exact jg_run (by rfl) rfl (wanted_none rfl) (ex_load1 rfl Try.underlying91 rfl h2 (by rw [(HS2.out.cell.mod hm HNE.out).cell]; rfl)) (Mod.refl _ _) rfl
    · intro tr act w' hm hout hsz hd hG hk hub
      exact jg_run (by rfl) rfl (wanted_none rfl) (ex_loadA rfl Try.underlying117 rfl (off := 0) (cs := [.int .i64 y, .string (strOfNums bs)]) (by kernel_rfl) ((hout 7 (by decide)).trans oe7) (Cs.whole (KQ.out.mod hm HQB.out))) (Mod.refl _ _) rfl
    · intro tr act w' hm hout hsz hd hG hk hub
      exact jg_run (by rfl) rfl (wanted_none rfl) (ex_move rfl ((hout 0 (by decide)).trans oe0)) (Mod.refl _ _) rfl
    · intro tr act w' hm hout hsz hd hG hk hub
      have h5 := hd ⟨5, .data⟩ (by simp) rfl _ rfl
      exact jg_run (by rfl) rfl (wanted_none rfl) (ex_nil rfl h5) (Mod.refl _ _) rfl
    · intro tr act w' hm hout hsz hd hG hk hub
      have h6 := hd ⟨6, .data⟩ (by simp) rfl _ rfl
      refine jg_run (by rfl) rfl (wanted_none rfl) (ex_field rfl Try.underlying93 rfl (by kernel_rfl) h6) (Mod.refl _ _) ?_
      rfl
    · intro tr act w' hm hout hsz hd hG hk hub
      have h7 := hd ⟨7, .data⟩ (by simp) rfl _ rfl
      exact jg_run (by rfl) rfl (wanted_none rfl) (ex_load1 rfl Try.underlying91 rfl h7 (by rw [(HS2.out.cell.mod hm HNE.out).cell]; rfl)) (Mod.refl _ _) rfl
    · intro tr act w' hm hout hsz hd hG hk hub
      have h8 := hd ⟨8, .data⟩ (by simp) rfl _ rfl
      refine jg_run (by rfl) rfl (wanted_none rfl) (ex_lenM rfl h8 (hG.at (show tr.length = 0 from Nat.le_zero.1 (hub 0 11 rfl (by kernel_rfl)))) Try.underlying91) (Mod.refl _ _) ?_
      exact congrArg (fun n : Nat => Value.int .i64 n) (marks_len 0 L)
    · intro tr act w' hm hout hsz hd hG hk hub
      have h9 := hd ⟨9, .data⟩ (by simp) rfl _ rfl
      refine jg_run (by rfl) rfl (wanted_none rfl) (ex_bin rfl h9 rfl (guard_ints _ _ _ _ _ _) (run_add_i _ _ Try.underlying3)) (Mod.refl _ _) ?_
      exact congrArg (Value.int .i64) (by rw [IntWalk.i64_in _ (by have := HLL.out; omega)]; simp)
    · intro tr act w' hm hout hsz hd hG hk hub
      have h3 := hd ⟨3, .data⟩ (by simp) rfl _ rfl
      have h4 := hd ⟨4, .data⟩ (by simp) rfl _ rfl
      have h10 := hd ⟨10, .data⟩ (by simp) rfl _ rfl
      have hl := hk 0 rfl
      obtain ⟨w'', hr, u1, u2⟩ := MapIs.update (hG.at hl) sg_enc Try.underlying91 (y, bs) HK.out (L.length + 1)
      refine jc_turn (by rfl) rfl (wanted_none rfl) (ex_mapUpdate (mv := .map (some b)) (kv := sgV (y, bs)) (uv := mkV (L.length + 1)) rfl h3 h4 h10 hr) u2 trivial (ByLen.on hl ?_)
      rw [show L.length + 1 = 0 + L.length + 1 by omega, marks_put 0 L (y, bs) HNO.out] at u1
      exact u1
    intro vs tr w4 hl htl hm hG hV
    obtain ⟨v0, vs0, rfl, hl0⟩ := list_cons hl
    obtain ⟨v1, vs1, rfl, hl1⟩ := list_cons hl0
    obtain ⟨v2, vs2, rfl, hl2⟩ := list_cons hl1
    obtain ⟨v3, vs3, rfl, hl3⟩ := list_cons hl2
    obtain ⟨v4, vs4, rfl, hl4⟩ := list_cons hl3
    obtain ⟨v5, vs5, rfl, hl5⟩ := list_cons hl4
    obtain ⟨v6, vs6, rfl, hl6⟩ := list_cons hl5
    obtain ⟨v7, vs7, rfl, hl7⟩ := list_cons hl6
    obtain ⟨v8, vs8, rfl, hl8⟩ := list_cons hl7
    obtain ⟨v9, vs9, rfl, hl9⟩ := list_cons hl8
    obtain ⟨v10, vs10, rfl, hl10⟩ := list_cons hl9
    obtain ⟨v11, vs11, rfl, hl11⟩ := list_cons hl10
    obtain rfl := list_nil hl11
    clear hl hl0 hl1 hl2 hl3 hl4 hl5 hl6 hl7 hl8 hl9 hl10 hl11
    have ha0 := HA0.out
    subst ha0
    clear HA0 hV hsz0 oe0 oe1 oe6 oe7
    simp only [putAll, Act.put, List.setIfInBounds_toArray, List.set_cons_zero, List.set_cons_succ, List.set_nil]
    have KMZ := Lib.hid ((KM3.out.mono (S' := fun k => k = b) (fun _ _ h => h.elim)).trans hm (fun _ _ h => h))
    have KQ4 := Lib.hid (KQ.out.mod hm HQB.out)
    have KR := Lib.hid (show ByLen (ResSt w.heap.size 30 [.int .i64 0, .int .i64 0] [.int .i64 y, .int .i64 (mkN (L ++ [(y, bs)]) (y, bs))]) [] w4 from KR3.out.mod hm (by omega))
    have HS4 := Lib.hid (show BookIs w4 g b (L ++ [(y, bs)]) from ⟨HS2.out.cell.mod hm HNE.out, hG.at htl⟩)
    clear hG hm KM3 KQ HS2 KR3 htl
    have KQ := Lib.hid KQ4.out
    clear KQ4
    go_upto_region 4 with (fail)
    generalize ha0 : Act.mk _ _ = a0
    have oe0 : a0.eval (.tmp 0) = .pointer (some ⟨g, 0, none⟩) := by rw [← ha0]; rfl
    have oe1 : a0.eval (.tmp 1) = .int .i64 y := by rw [← ha0]; rfl
    have oe6 : a0.eval (.tmp 6) = .pointer (some ⟨w.heap.size, 0, none⟩) := by rw [← ha0]; rfl
    have oe7 : a0.eval (.tmp 7) = .pointer (some ⟨q, 0, none⟩) := by rw [← ha0]; rfl
    have hsz0 : a0.tmps.size = 38 := by rw [← ha0]; rfl
    have HA0 := Lib.hid ha0
    clear ha0
    refine wp_region_G 38 hsz0 (by kernel_rfl) (by kernel_rfl) [30, 31, 32, 33, 34, 35, 36, 37, 46] (by kernel_rfl) (by decide) (fun k => k = w.heap.size) (fun _ k => k = w.heap.size) (fun _ _ h => h) Still (fun _ _ _ h => h) (fun _ _ _ hm h => hm.trans h (fun _ _ h => h.elim)) [gi (.int .i64 y), gi (.pointer (some ⟨g, 0, none⟩)), gi (.pointer (some ⟨g, 0, none⟩)), gi (.pointer (some ⟨g, 0, none⟩)), gi (.map (some b)), gi (sgV (y, bs)), gi (.int .i64 (mkN (L ++ [(y, bs)]) (y, bs))), gi (.agg ([.int .i64 y, .int .i64 (mkN (L ++ [(y, bs)]) (y, bs))] : List Value).toArray), ga] ⟨gi_stable, gi_stable, gi_stable, gi_stable, gi_stable, gi_stable, gi_stable, gi_stable, ga_stable, trivial⟩ [8] (by kernel_rfl) (by decide) (by kernel_rfl) (ByLen (ResSt (w.heap.size) 30 [.int .i64 0, .int .i64 0] [.int .i64 y, .int .i64 (mkN (L ++ [(y, bs)]) (y, bs))])) (ByLen.still ResSt_still) KR.out ⟨?_, ?_, ?_, ?_, ?_, ?_, ?_, ?_, ?_, trivial⟩ ?_
    · intro tr act w' hm hout hsz hd hG hk hub
      exact jg_run (by rfl) rfl (wanted_none rfl) (ex_move rfl ((hout 1 (by decide)).trans oe1)) (Mod.refl _ _) rfl
    · intro tr act w' hm hout hsz hd hG hk hub
      exact jg_run (by rfl) rfl (wanted_none rfl) (ex_move rfl ((hout 0 (by decide)).trans oe0)) (Mod.refl _ _) rfl
    · intro tr act w' hm hout hsz hd hG hk hub
      have h1 := hd ⟨1, .data⟩ (by simp) rfl _ rfl
      exact jg_run (by rfl) rfl (wanted_none rfl) (ex_nil rfl h1) (Mod.refl _ _) rfl
    · intro tr act w' hm hout hsz hd hG hk hub
      have h2 := hd ⟨2, .data⟩ (by simp) rfl _ rfl
      refine jg_run (by rfl) rfl (wanted_none rfl) (ex_field rfl Try.underlying93 rfl (by kernel_rfl) h2) (Mod.refl _ _) ?_
      rfl
    · intro tr act w' hm hout hsz hd hG hk hub
      have h3 := hd ⟨3, .data⟩ (by simp) rfl _ rfl
      exact jg_run (by rfl) rfl (wanted_none rfl) (ex_load1 rfl Try.underlying91 rfl h3 (by rw [(HS4.out.cell.mod hm (by omega)).cell]; rfl)) (Mod.refl _ _) rfl
    · intro tr act w' hm hout hsz hd hG hk hub
      exact jg_run (by rfl) rfl (wanted_none rfl) (ex_loadA rfl Try.underlying117 rfl (off := 0) (cs := [.int .i64 y, .string (strOfNums bs)]) (by kernel_rfl) ((hout 7 (by decide)).trans oe7) (Cs.whole (KQ.out.mod hm (by omega)))) (Mod.refl _ _) rfl
    · intro tr act w' hm hout hsz hd hG hk hub
      have h4 := hd ⟨4, .data⟩ (by simp) rfl _ rfl
      have h5 := hd ⟨5, .data⟩ (by simp) rfl _ rfl
      refine jg_run (by rfl) rfl (wanted_none rfl) (ex_lookup rfl h4 h5 ((HS4.out.map.mod hm (by omega)).lookup sg_enc Try.underlying91 (zero_run zero_int _) (y, bs) HK.out false)) (Mod.refl _ _) ?_
      exact book_look (L ++ [(y, bs)]) (y, bs)
    · intro tr act w' hm hout hsz hd hG hk hub
      have h0 := hd ⟨0, .data⟩ (by simp) rfl _ rfl
      have h6 := hd ⟨6, .data⟩ (by simp) rfl _ rfl
      exact jg_run (by rfl) rfl (wanted_none rfl) (ex_build rfl (z := [.int .i64 0, .int .i64 0]) (places := [(0, 1), (1, 1)]) (by kernel_rfl) (parts := [(0, .int .i64 y), (1, .int .i64 (mkN (L ++ [(y, bs)]) (y, bs)))]) (by simp only [List.map_toArray, List.map_cons, List.map_nil, show act.eval (.tmp 30) = _ from h0, show act.eval (.tmp 36) = _ from h6]; try rfl) (r := [.int .i64 y, .int .i64 (mkN (L ++ [(y, bs)]) (y, bs))]) (by rfl)) (Mod.refl _ _) rfl
    · intro tr act w' hm hout hsz hd hG hk hub
      have h7 := hd ⟨7, .data⟩ (by simp) rfl _ rfl
      have hl := hk 0 rfl
      refine jc_turn (by rfl) rfl (wanted_none rfl) (ex_storeA rfl (hG.at hl) (off := 0) (vs := [.int .i64 y, .int .i64 (mkN (L ++ [(y, bs)]) (y, bs))]) (by kernel_rfl) (by intro u hu; simp at hu; rcases hu with rfl | rfl <;> rfl) (by simp) ((hout 6 (by decide)).trans oe6) (by rw [show act.eval (.tmp 37) = _ from h7]; rfl)) setRow_Mod trivial (ByLen.on hl ?_)
      rw [lay_whole _ _ (by simp)]
      exact setRow_Cs (hG.at hl)
    intro vs tr w9 hl htl hm hG hV
    obtain ⟨v0, vs0, rfl, hl0⟩ := list_cons hl
    obtain ⟨v1, vs1, rfl, hl1⟩ := list_cons hl0
    obtain ⟨v2, vs2, rfl, hl2⟩ := list_cons hl1
    obtain ⟨v3, vs3, rfl, hl3⟩ := list_cons hl2
    obtain ⟨v4, vs4, rfl, hl4⟩ := list_cons hl3
    obtain ⟨v5, vs5, rfl, hl5⟩ := list_cons hl4
    obtain ⟨v6, vs6, rfl, hl6⟩ := list_cons hl5
    obtain ⟨v7, vs7, rfl, hl7⟩ := list_cons hl6
    obtain ⟨v8, vs8, rfl, hl8⟩ := list_cons hl7
    obtain rfl := list_nil hl8
    clear hl hl0 hl1 hl2 hl3 hl4 hl5 hl6 hl7 hl8
    have ha0 := HA0.out
    subst ha0
    clear HA0 hV hsz0 oe0 oe1 oe6 oe7
    simp only [putAll, Act.put, List.setIfInBounds_toArray, List.set_cons_zero, List.set_cons_succ, List.set_nil]
    have hres := hG.at htl
    have hfin := HS4.out.mod hm (by omega) (by omega)
    go_wp2
    exact bodyPost_ret (results_cellA rfl _ _ w.heap.size [.int .i64 y, .int .i64 (mkN (L ++ [(y, bs)]) (y, bs))] rfl (fun k u hu => by rw [Cs.cell hres]; simpa using hu) Try.underlying30 rfl (by kernel_rfl)) rfl ⟨_, rfl, by rw [HSN.out], by rw [HSN.out]; exact hfin, KMZ.out.trans hm (fun k h1 h2 => by omega)⟩
  · have HZ := Lib.hid (show (((mkN L (y, bs) : Nat) : Int) == 0) = false by simpa using hz)
    have HSN := Lib.hid (show signF L (y, bs) = L by unfold signF; rw [if_neg hz])
    clear hz
    go_upto_region 2 with (fail)
    generalize ha0 : Act.mk _ _ = a0
    have oe0 : a0.eval (.tmp 0) = .pointer (some ⟨g, 0, none⟩) := by rw [← ha0]; rfl
    have oe1 : a0.eval (.tmp 1) = .int .i64 y := by rw [← ha0]; rfl
    have oe6 : a0.eval (.tmp 6) = .pointer (some ⟨w.heap.size, 0, none⟩) := by rw [← ha0]; rfl
    have oe7 : a0.eval (.tmp 7) = .pointer (some ⟨q, 0, none⟩) := by rw [← ha0]; rfl
    have hsz0 : a0.tmps.size = 38 := by rw [← ha0]; rfl
    have HA0 := Lib.hid ha0
    clear ha0
    refine wp_region_G 38 hsz0 (by kernel_rfl) (by kernel_rfl) [12, 13, 14, 15, 16, 17, 18] (by kernel_rfl) (by decide) (fun _ => False) (fun _ _ => False) (fun _ _ h => h) Still (fun _ _ _ h => h) (fun _ _ _ hm h => hm.trans h (fun _ _ h => h.elim)) [gi (.pointer (some ⟨g, 0, none⟩)), gi (.pointer (some ⟨g, 0, none⟩)), gi (.pointer (some ⟨g, 0, none⟩)), gi (.map (some b)), gi (sgV (y, bs)), gi (.int .i64 (mkN L (y, bs))), gi (.bool false)] ⟨gi_stable, gi_stable, gi_stable, gi_stable, gi_stable, gi_stable, gi_stable, trivial⟩ [] (by kernel_rfl) (by decide) (by kernel_rfl) (fun _ _ => True) (fun _ _ _ _ _ => trivial) trivial ⟨?_, ?_, ?_, ?_, ?_, ?_, ?_, trivial⟩ ?_
    · intro tr act w' hm hout hsz hd hG hk hub
      exact jg_run (by rfl) rfl (wanted_none rfl) (ex_move rfl ((hout 0 (by decide)).trans oe0)) (Mod.refl _ _) rfl
    · intro tr act w' hm hout hsz hd hG hk hub
      have h0 := hd ⟨0, .data⟩ (by simp) rfl _ rfl
      exact jg_run (by rfl) rfl (wanted_none rfl) (ex_nil rfl h0) (Mod.refl _ _) rfl
    · intro tr act w' hm hout hsz hd hG hk hub
      have h1 := hd ⟨1, .data⟩ (by simp) rfl _ rfl
      refine jg_run (by rfl) rfl (wanted_none rfl) (ex_field rfl Try.underlying93 rfl (by kernel_rfl) h1) (Mod.refl _ _) ?_
      rfl
    · intro tr act w' hm hout hsz hd hG hk hub
      have h2 := hd ⟨2, .data⟩ (by simp) rfl _ rfl
      exact jg_run (by rfl) rfl (wanted_none rfl) (ex_load1 rfl Try.underlying91 rfl h2 (by rw [(HS2.out.cell.mod hm (fun h => h)).cell]; rfl)) (Mod.refl _ _) rfl
    · intro tr act w' hm hout hsz hd hG hk hub
      exact jg_run (by rfl) rfl (wanted_none rfl) (ex_loadA rfl Try.underlying117 rfl (off := 0) (cs := [.int .i64 y, .string (strOfNums bs)]) (by kernel_rfl) ((hout 7 (by decide)).trans oe7) (Cs.whole (KQ.out.mod hm (fun h => h)))) (Mod.refl _ _) rfl
    · intro tr act w' hm hout hsz hd hG hk hub
      have h3 := hd ⟨3, .data⟩ (by simp) rfl _ rfl
      have h4 := hd ⟨4, .data⟩ (by simp) rfl _ rfl
      refine jg_run (by rfl) rfl (wanted_none rfl) (ex_lookup rfl h3 h4 ((HS2.out.map.mod hm (fun h => h)).lookup sg_enc Try.underlying91 (zero_run zero_int _) (y, bs) HK.out false)) (Mod.refl _ _) ?_
      exact book_look L (y, bs)
    · intro tr act w' hm hout hsz hd hG hk hub
      have h5 := hd ⟨5, .data⟩ (by simp) rfl _ rfl
      refine jg_run (by rfl) rfl (wanted_none rfl) (ex_bin rfl h5 rfl (guard_ints _ _ _ _ _ _) (run_eql_i _ _ _ Try.underlying3)) (Mod.refl _ _) ?_
      exact congrArg Value.bool HZ.out
    intro vs tr w3 hl htl hm hG hV
    obtain ⟨v0, vs0, rfl, hl0⟩ := list_cons hl
    obtain ⟨v1, vs1, rfl, hl1⟩ := list_cons hl0
    obtain ⟨v2, vs2, rfl, hl2⟩ := list_cons hl1
    obtain ⟨v3, vs3, rfl, hl3⟩ := list_cons hl2
    obtain ⟨v4, vs4, rfl, hl4⟩ := list_cons hl3
    obtain ⟨v5, vs5, rfl, hl5⟩ := list_cons hl4
    obtain ⟨v6, vs6, rfl, hl6⟩ := list_cons hl5
    obtain rfl := list_nil hl6
    clear hl hl0 hl1 hl2 hl3 hl4 hl5 hl6
    obtain rfl : v6 = .bool false := hV 6 _ rfl
    have ha0 := HA0.out
    subst ha0
    clear HA0 hV hsz0 oe0 oe1 oe6 oe7
    simp only [putAll, Act.put, List.setIfInBounds_toArray, List.set_cons_zero, List.set_cons_succ]
    have KMZ := Lib.hid ((KM2.out.trans hm (fun _ _ h => h)).mono (S' := fun k => k = b) (fun _ _ h => h.elim))
    have KQ4 := Lib.hid (KQ.out.mod hm (fun h => h))
    have KR := Lib.hid (show ByLen (ResSt w.heap.size 30 [.int .i64 0, .int .i64 0] [.int .i64 y, .int .i64 (mkN L (y, bs))]) [] w3 from KR2.out.mod hm (fun h => h))
    have HS4 := Lib.hid (HS2.out.mod hm (fun h => h) (fun h => h))
    clear hG hm KM2 KQ HS2 KR2
    have KQ := Lib.hid KQ4.out
    clear KQ4
    go_upto_region 4 with (fail)
    generalize ha0 : Act.mk _ _ = a0
    have oe0 : a0.eval (.tmp 0) = .pointer (some ⟨g, 0, none⟩) := by rw [← ha0]; rfl
    have oe1 : a0.eval (.tmp 1) = .int .i64 y := by rw [← ha0]; rfl
    have oe6 : a0.eval (.tmp 6) = .pointer (some ⟨w.heap.size, 0, none⟩) := by rw [← ha0]; rfl
    have oe7 : a0.eval (.tmp 7) = .pointer (some ⟨q, 0, none⟩) := by rw [← ha0]; rfl
    have hsz0 : a0.tmps.size = 38 := by rw [← ha0]; rfl
    have HA0 := Lib.hid ha0
    clear ha0
    refine wp_region_G 38 hsz0 (by kernel_rfl) (by kernel_rfl) [30, 31, 32, 33, 34, 35, 36, 37, 46] (by kernel_rfl) (by decide) (fun k => k = w.heap.size) (fun _ k => k = w.heap.size) (fun _ _ h => h) Still (fun _ _ _ h => h) (fun _ _ _ hm h => hm.trans h (fun _ _ h => h.elim)) [gi (.int .i64 y), gi (.pointer (some ⟨g, 0, none⟩)), gi (.pointer (some ⟨g, 0, none⟩)), gi (.pointer (some ⟨g, 0, none⟩)), gi (.map (some b)), gi (sgV (y, bs)), gi (.int .i64 (mkN L (y, bs))), gi (.agg ([.int .i64 y, .int .i64 (mkN L (y, bs))] : List Value).toArray), ga] ⟨gi_stable, gi_stable, gi_stable, gi_stable, gi_stable, gi_stable, gi_stable, gi_stable, ga_stable, trivial⟩ [8] (by kernel_rfl) (by decide) (by kernel_rfl) (ByLen (ResSt (w.heap.size) 30 [.int .i64 0, .int .i64 0] [.int .i64 y, .int .i64 (mkN L (y, bs))])) (ByLen.still ResSt_still) KR.out ⟨?_, ?_, ?_, ?_, ?_, ?_, ?_, ?_, ?_, trivial⟩ ?_
    · intro tr act w' hm hout hsz hd hG hk hub
      exact jg_run (by rfl) rfl (wanted_none rfl) (ex_move rfl ((hout 1 (by decide)).trans oe1)) (Mod.refl _ _) rfl
    · intro tr act w' hm hout hsz hd hG hk hub
      exact jg_run (by rfl) rfl (wanted_none rfl) (ex_move rfl ((hout 0 (by decide)).trans oe0)) (Mod.refl _ _) rfl
    · intro tr act w' hm hout hsz hd hG hk hub
      have h1 := hd ⟨1, .data⟩ (by simp) rfl _ rfl
      exact jg_run (by rfl) rfl (wanted_none rfl) (ex_nil rfl h1) (Mod.refl _ _) rfl
    · intro tr act w' hm hout hsz hd hG hk hub
      have h2 := hd ⟨2, .data⟩ (by simp) rfl _ rfl
      refine jg_run (by rfl) rfl (wanted_none rfl) (ex_field rfl Try.underlying93 rfl (by kernel_rfl) h2) (Mod.refl _ _) ?_
      rfl
    · intro tr act w' hm hout hsz hd hG hk hub
      have h3 := hd ⟨3, .data⟩ (by simp) rfl _ rfl
      exact jg_run (by rfl) rfl (wanted_none rfl) (ex_load1 rfl Try.underlying91 rfl h3 (by rw [(HS4.out.cell.mod hm (by omega)).cell]; rfl)) (Mod.refl _ _) rfl
    · intro tr act w' hm hout hsz hd hG hk hub
      exact jg_run (by rfl) rfl (wanted_none rfl) (ex_loadA rfl Try.underlying117 rfl (off := 0) (cs := [.int .i64 y, .string (strOfNums bs)]) (by kernel_rfl) ((hout 7 (by decide)).trans oe7) (Cs.whole (KQ.out.mod hm (by omega)))) (Mod.refl _ _) rfl
    · intro tr act w' hm hout hsz hd hG hk hub
      have h4 := hd ⟨4, .data⟩ (by simp) rfl _ rfl
      have h5 := hd ⟨5, .data⟩ (by simp) rfl _ rfl
      refine jg_run (by rfl) rfl (wanted_none rfl) (ex_lookup rfl h4 h5 ((HS4.out.map.mod hm (by omega)).lookup sg_enc Try.underlying91 (zero_run zero_int _) (y, bs) HK.out false)) (Mod.refl _ _) ?_
      exact book_look L (y, bs)
    · intro tr act w' hm hout hsz hd hG hk hub
      have h0 := hd ⟨0, .data⟩ (by simp) rfl _ rfl
      have h6 := hd ⟨6, .data⟩ (by simp) rfl _ rfl
      exact jg_run (by rfl) rfl (wanted_none rfl) (ex_build rfl (z := [.int .i64 0, .int .i64 0]) (places := [(0, 1), (1, 1)]) (by kernel_rfl) (parts := [(0, .int .i64 y), (1, .int .i64 (mkN L (y, bs)))]) (by simp only [List.map_toArray, List.map_cons, List.map_nil, show act.eval (.tmp 30) = _ from h0, show act.eval (.tmp 36) = _ from h6]; try rfl) (r := [.int .i64 y, .int .i64 (mkN L (y, bs))]) (by rfl)) (Mod.refl _ _) rfl
    · intro tr act w' hm hout hsz hd hG hk hub
      have h7 := hd ⟨7, .data⟩ (by simp) rfl _ rfl
      have hl := hk 0 rfl
      refine jc_turn (by rfl) rfl (wanted_none rfl) (ex_storeA rfl (hG.at hl) (off := 0) (vs := [.int .i64 y, .int .i64 (mkN L (y, bs))]) (by kernel_rfl) (by intro u hu; simp at hu; rcases hu with rfl | rfl <;> rfl) (by simp) ((hout 6 (by decide)).trans oe6) (by rw [show act.eval (.tmp 37) = _ from h7]; rfl)) setRow_Mod trivial (ByLen.on hl ?_)
      rw [lay_whole _ _ (by simp)]
      exact setRow_Cs (hG.at hl)
    intro vs tr w9 hl htl hm hG hV
    obtain ⟨v0, vs0, rfl, hl0⟩ := list_cons hl
    obtain ⟨v1, vs1, rfl, hl1⟩ := list_cons hl0
    obtain ⟨v2, vs2, rfl, hl2⟩ := list_cons hl1
    obtain ⟨v3, vs3, rfl, hl3⟩ := list_cons hl2
    obtain ⟨v4, vs4, rfl, hl4⟩ := list_cons hl3
    obtain ⟨v5, vs5, rfl, hl5⟩ := list_cons hl4
    obtain ⟨v6, vs6, rfl, hl6⟩ := list_cons hl5
    obtain ⟨v7, vs7, rfl, hl7⟩ := list_cons hl6
    obtain ⟨v8, vs8, rfl, hl8⟩ := list_cons hl7
    obtain rfl := list_nil hl8
    clear hl hl0 hl1 hl2 hl3 hl4 hl5 hl6 hl7 hl8
    have ha0 := HA0.out
    subst ha0
    clear HA0 hV hsz0 oe0 oe1 oe6 oe7
    simp only [putAll, Act.put, List.setIfInBounds_toArray, List.set_cons_zero, List.set_cons_succ, List.set_nil]
    have hres := hG.at htl
    have hfin := HS4.out.mod hm (by omega) (by omega)
    go_wp2
    exact bodyPost_ret (results_cellA rfl _ _ w.heap.size [.int .i64 y, .int .i64 (mkN L (y, bs))] rfl (fun k u hu => by rw [Cs.cell hres]; simpa using hu) Try.underlying30 rfl (by kernel_rfl)) rfl ⟨_, rfl, by rw [HSN.out], by rw [HSN.out]; exact hfin, KMZ.out.trans hm (fun k h1 h2 => by omega)⟩
end Go.Proofs.Ytgnmdnmmemdemaa

/- commit.signer, Valid, Matches. -/
set_option maxRecDepth 100000
set_option linter.unusedVariables false
namespace Go.Proofs.Ytgnmdnmmemdemaa
open Go Go.RowKit Go.Gv

theorem signer_any (n : Int) (w : World) (h : I64 (1000 + n)) : Calls Try.prog 54 #[.int .i64 n] w fun e w' => e = .returned (.int .i64 (1000 + n)) ∧ Mod (fun _ => False) w w' := by
  go_enter Try.func54, Try.ntmps54
  go_wp2
  go_ret
  exact ⟨congrArg (fun z => Ending.returned (Value.int .i64 z)) (by have h' := h; unfold I64 at h'; unfold wrap64; omega), by first | exact Mod.refl _ _ | exact (Mod.refl _ _).drew⟩
def validF (k : Int) (c : Cm) : Bool := decide (0 ≤ c.cl) && decide (c.cl < k) && decide (1 ≤ c.sq) && decide (c.sq ≤ 1048576) && decide (0 ≤ c.ln) && decide (c.ln ≤ 256)
set_option maxHeartbeats 4000000 in
theorem Valid_any (f k : Int) (c : Cm) (hc : c.OK) (w : World) : Calls Try.prog 15 #[.agg #[.int .i64 f, .int .i64 k], c.val] w fun e w' => e = .returned (.bool (validF k c)) ∧ Mod (fun _ => False) w w' := by
  have HL := Lib.hid hc.2.1
  clear hc
  change Calls _ _ #[.agg #[.int .i64 f, .int .i64 k], .agg c.cells.toArray] _ _
  go_enter Try.func15, Try.ntmps15
  go_upto_region 1 with (fail)
  obtain ⟨w1, hw1⟩ : ∃ x, x = (w.alloc (.cells #[.int .i64 f, .int .i64 k] 24)).alloc (.cells c.cells.toArray 32) := ⟨_, rfl⟩
  change Code.wp _ _ _ _ ((w.alloc (.cells #[.int .i64 f, .int .i64 k] 24)).alloc (.cells c.cells.toArray 32))
  rw [← hw1]
  have KF := Lib.hid (show Cs w1 w.heap.size #[.int .i64 f, .int .i64 k] 24 by rw [hw1]; exact (Cs.new _ _ _).alloc _)
  have KX := Lib.hid (show Cs w1 (w.heap.size + 1) c.cells.toArray 32 by rw [hw1]; exact Cs_new1 _ _ _ _)
  have KM := Lib.hid (show Mod (fun _ => False) w w1 by rw [hw1]; exact ((Mod.refl _ _).alloc _).alloc _)
  have hs1 : w1.heap.size = w.heap.size + 2 := by rw [hw1]; simp
  clear hw1
  generalize ha0 : Act.mk _ _ = a0
  have oe3 : a0.eval (.tmp 3) = .pointer (some ⟨w.heap.size + 1, 0, none⟩) := by rw [← ha0]; rfl
  have hsz0 : a0.tmps.size = 38 := by rw [← ha0]; rfl
  have HA0 := Lib.hid ha0
  clear ha0
  refine wp_region_A 38 hsz0 (by kernel_rfl) (by kernel_rfl) [6, 7, 5, 41] (by kernel_rfl) (by decide) (fun j => w1.heap.size ≤ j) (fun _ _ => False) (fun _ _ h => h.elim) Still (fun _ _ _ h => h) (fun _ _ _ hm h => hm.trans h (fun _ _ h => h.elim)) [gi (.pointer (some ⟨w.heap.size + 1, 0, none⟩)), gi (.agg #[.int .i64 c.cl, .int .i64 c.sq]), ga, ga] ⟨gi_stable, gi_stable, ga_stable, ga_stable, trivial⟩ [] (by kernel_rfl) (by decide) (by kernel_rfl) (fun _ _ => True) (fun _ _ _ _ _ => trivial) trivial [⟨2, 3, 26, [.int .i64 0, .int .i64 0], [.int .i64 c.cl, .int .i64 c.sq]⟩] (by kernel_rfl) (by intro r hr; simp only [List.mem_cons, List.not_mem_nil, or_false] at hr; rcases hr with rfl <;> exact ⟨rfl, rfl⟩) (fun _ _ h => h.elim) (fun _ h => h) stillA (fun _ _ _ _ _ _ => trivial) (AllEnd.get _ ⟨gi_end, gi_end, ga_end, ga_end, trivial⟩) (by intro r hr; simp only [List.mem_cons, List.not_mem_nil, or_false] at hr; rcases hr with rfl <;> exact ⟨of_decide_eq_true (by kernel_rfl), of_decide_eq_true (by kernel_rfl)⟩) (by intro r hr; simp only [List.mem_cons, List.not_mem_nil, or_false] at hr; rcases hr with rfl <;> exact fun _ _ _ => ⟨trivial, trivial⟩) ⟨?_, ?_, ?_, ?_, trivial⟩ ?_
  · refine ⟨fun r hr e => ?_, fun r hr e => ?_, fun hno => ?_⟩
    · simp only [List.mem_cons, List.not_mem_nil, or_false] at hr
      rcases hr with rfl
      · simp at e
    · simp only [List.mem_cons, List.not_mem_nil, or_false] at hr
      rcases hr with rfl
      · simp at e
    · intro tr act w' hm hout hsz hd hG hk hub
      refine jg_run (by rfl) rfl (wanted_none rfl) (ex_field rfl Try.underlying32 rfl (by kernel_rfl) ((hout 3 (by decide)).trans oe3)) (Mod.refl _ _) ?_
      rfl
  · refine ⟨fun r hr e => ?_, fun r hr e => ?_, fun hno => ?_⟩
    · simp only [List.mem_cons, List.not_mem_nil, or_false] at hr
      rcases hr with rfl
      · simp at e
    · simp only [List.mem_cons, List.not_mem_nil, or_false] at hr
      rcases hr with rfl
      · simp at e
    · intro tr act w' hm hout hsz hd hG hk hub
      have h0 := hd ⟨0, .data⟩ (by simp) rfl _ rfl
      exact jg_run (by rfl) rfl (wanted_none rfl) (ex_loadA rfl Try.underlying26 rfl (off := 0) (cs := [.int .i64 c.cl, .int .i64 c.sq]) (by kernel_rfl) h0 (Cs.name (KX.out.mod hm (by omega)))) (Mod.refl _ _) rfl
  · refine ⟨fun r hr e => ?_, fun r hr e => ?_, fun hno => ?_⟩
    · simp only [List.mem_cons, List.not_mem_nil, or_false] at hr
      rcases hr with rfl
      · exact ⟨rfl, rfl, by kernel_rfl, rfl, (by intro u hu; simp at hu; rcases hu with rfl | rfl <;> rfl), (by kernel_rfl)⟩
    · simp only [List.mem_cons, List.not_mem_nil, or_false] at hr
      rcases hr with rfl
      · simp at e
    · exact absurd rfl (hno ⟨2, 3, 26, [.int .i64 0, .int .i64 0], [.int .i64 c.cl, .int .i64 c.sq]⟩ (by simp)).1
  · refine ⟨fun r hr e => ?_, fun r hr e => ?_, fun hno => ?_⟩
    · simp only [List.mem_cons, List.not_mem_nil, or_false] at hr
      rcases hr with rfl
      · simp at e
    · simp only [List.mem_cons, List.not_mem_nil, or_false] at hr
      rcases hr with rfl
      · refine ⟨rfl, _, (.tmp 7), rfl, by decide, rfl, by kernel_rfl, by kernel_rfl, fun tr act w' hm hout hd hG => ?_⟩
        have h1 := hd ⟨1, .data⟩ (by simp) rfl _ rfl
        rw [show act.eval ((.tmp 7)) = _ from h1]
        rfl
    · exact absurd rfl (hno ⟨2, 3, 26, [.int .i64 0, .int .i64 0], [.int .i64 c.cl, .int .i64 c.sq]⟩ (by simp)).2
  intro vs tr w2 hl htl hm hG hV hAL hNE
  obtain ⟨v0, vs0, rfl, hl0⟩ := list_cons hl
  obtain ⟨v1, vs1, rfl, hl1⟩ := list_cons hl0
  obtain ⟨v2, vs2, rfl, hl2⟩ := list_cons hl1
  obtain ⟨v3, vs3, rfl, hl3⟩ := list_cons hl2
  obtain rfl := list_nil hl3
  obtain ⟨q0, fq0, hqB0, hqC0⟩ := hAL _ (by simp only [List.mem_cons, List.not_mem_nil, or_false]; trivial)
  obtain rfl : v2 = _ := Option.some.inj fq0
  clear hl hl0 hl1 hl2 hl3
  have ha0 := HA0.out
  subst ha0
  clear HA0 hV hsz0 oe3
  simp only [putAll, Act.put, List.setIfInBounds_toArray, List.set_cons_zero, List.set_cons_succ, List.set_nil]
  have KQ := Lib.hid (show Cs w2 q0 #[.int .i64 c.cl, .int .i64 c.sq] 26 from hqC0)
  have KF2 := Lib.hid (KF.out.mod hm (by omega))
  have KX2 := Lib.hid (KX.out.mod hm (by omega))
  have KM2 := Lib.hid (KM.out.trans hm (fun k h1 h2 => by omega))
  clear hm hG hAL hNE hqC0 fq0 KF KX KM
  by_cases c0 : 0 ≤ c.cl
  · have E0 := Lib.hid (decide_eq_true c0)
    clear c0
    by_cases c1 : c.cl < k
    · have E1 := Lib.hid (decide_eq_true c1)
      clear c1
      by_cases c2 : 1 ≤ c.sq
      · have E2 := Lib.hid (decide_eq_true c2)
        clear c2
        by_cases c3 : c.sq ≤ 1048576
        · have E3 := Lib.hid (decide_eq_true c3)
          clear c3
          by_cases c4 : 0 ≤ c.ln
          · have E4 := Lib.hid (decide_eq_true c4)
            clear c4
            by_cases c5 : c.ln ≤ 256
            · have E5 := Lib.hid (decide_eq_true c5)
              clear c5
              go_upto_region 2 with (fail)
              generalize ha0 : Act.mk _ _ = a0
              have oe2 : a0.eval (.tmp 2) = .pointer (some ⟨w.heap.size, 0, none⟩) := by rw [← ha0]; rfl
              have oe3 : a0.eval (.tmp 3) = .pointer (some ⟨w.heap.size + 1, 0, none⟩) := by rw [← ha0]; rfl
              have oe5 : a0.eval (.tmp 5) = .pointer (some ⟨q0, 0, none⟩) := by rw [← ha0]; rfl
              have hsz0 : a0.tmps.size = 38 := by rw [← ha0]; rfl
              have HA0 := Lib.hid ha0
              clear ha0
              refine wp_region_G 38 hsz0 (by kernel_rfl) (by kernel_rfl) [8, 9, 10, 11, 12, 13, 14, 15, 16, 17, 18, 19, 20, 21, 22, 23, 24, 25, 26, 27, 28, 29, 30, 31, 32, 33, 34, 35, 36, 37, 4] (by kernel_rfl) (by decide) (fun _ => False) (fun _ _ => False) (fun _ _ h => h) Still (fun _ _ _ h => h) (fun _ _ _ hm h => hm.trans h (fun _ _ h => h.elim)) [gi (.pointer (some ⟨q0, 0, none⟩)), gi (.int .i64 c.cl), gi (.bool true), gi (.bool true), gi (.pointer (some ⟨q0, 0, none⟩)), gi (.int .i64 c.cl), gi (.pointer (some ⟨w.heap.size, 1, none⟩)), gi (.int .i64 k), gi (.bool true), gi (.bool true), gi (.bool true), gi (.pointer (some ⟨q0, 1, none⟩)), gi (.int .i64 c.sq), gi (.bool true), gi (.bool true), gi (.bool true), gi (.pointer (some ⟨q0, 1, none⟩)), gi (.int .i64 c.sq), gi (.bool true), gi (.bool true), gi (.bool true), gi (.pointer (some ⟨w.heap.size + 1, 34, none⟩)), gi (.int .i64 c.ln), gi (.bool true), gi (.bool true), gi (.bool true), gi (.pointer (some ⟨w.heap.size + 1, 34, none⟩)), gi (.int .i64 c.ln), gi (.bool true), gi (.bool true), gi (.bool true)] ⟨gi_stable, gi_stable, gi_stable, gi_stable, gi_stable, gi_stable, gi_stable, gi_stable, gi_stable, gi_stable, gi_stable, gi_stable, gi_stable, gi_stable, gi_stable, gi_stable, gi_stable, gi_stable, gi_stable, gi_stable, gi_stable, gi_stable, gi_stable, gi_stable, gi_stable, gi_stable, gi_stable, gi_stable, gi_stable, gi_stable, gi_stable, trivial⟩ [] (by kernel_rfl) (by decide) (by kernel_rfl) (fun _ _ => True) (fun _ _ _ _ _ => trivial) trivial ⟨?_, ?_, ?_, ?_, ?_, ?_, ?_, ?_, ?_, ?_, ?_, ?_, ?_, ?_, ?_, ?_, ?_, ?_, ?_, ?_, ?_, ?_, ?_, ?_, ?_, ?_, ?_, ?_, ?_, ?_, ?_, trivial⟩ ?_
              · intro tr act w' hm hout hsz hd hG hk hub
                refine jg_run (by rfl) rfl (wanted_none rfl) (ex_field rfl Try.underlying26 rfl (by kernel_rfl) ((hout 5 (by decide)).trans oe5)) (Mod.refl _ _) ?_
                rfl
              · intro tr act w' hm hout hsz hd hG hk hub
                have h0 := hd ⟨0, .data⟩ (by simp) rfl _ rfl
                exact jg_run (by rfl) rfl (wanted_none rfl) (ex_load1 rfl Try.underlying3 rfl h0 (by rw [(KQ.out.mod hm (fun h => h)).cell]; rfl)) (Mod.refl _ _) rfl
              · intro tr act w' hm hout hsz hd hG hk hub
                have h1 := hd ⟨1, .data⟩ (by simp) rfl _ rfl
                refine jg_run (by rfl) rfl (wanted_none rfl) (ex_bin rfl h1 rfl (guard_ints _ _ _ _ _ _) (run_geq_i _ _ _ Try.underlying3)) (Mod.refl _ _) ?_
                exact congrArg Value.bool E0.out
              · intro tr act w' hm hout hsz hd hG hk hub
                have h2 := hd ⟨2, .data⟩ (by simp) rfl _ rfl
                exact jg_run (by rfl) rfl (wanted_none rfl) (ex_move rfl h2) (Mod.refl _ _) rfl
              · intro tr act w' hm hout hsz hd hG hk hub
                have h3 := hd ⟨3, .guard⟩ (by simp) rfl _ rfl
                refine jg_run (by rfl) rfl ((wanted_of rfl rfl (hsz 11 (by decide)) h3).trans rfl) (ex_field rfl Try.underlying26 rfl (by kernel_rfl) ((hout 5 (by decide)).trans oe5)) (Mod.refl _ _) ?_
                rfl
              · intro tr act w' hm hout hsz hd hG hk hub
                have h3 := hd ⟨3, .guard⟩ (by simp) rfl _ rfl
                have h4 := hd ⟨4, .data⟩ (by simp) rfl _ rfl
                exact jg_run (by rfl) rfl ((wanted_of rfl rfl (hsz 11 (by decide)) h3).trans rfl) (ex_load1 rfl Try.underlying3 rfl h4 (by rw [(KQ.out.mod hm (fun h => h)).cell]; rfl)) (Mod.refl _ _) rfl
              · intro tr act w' hm hout hsz hd hG hk hub
                have h3 := hd ⟨3, .guard⟩ (by simp) rfl _ rfl
                refine jg_run (by rfl) rfl ((wanted_of rfl rfl (hsz 11 (by decide)) h3).trans rfl) (ex_field rfl Try.underlying24 rfl (by kernel_rfl) ((hout 2 (by decide)).trans oe2)) (Mod.refl _ _) ?_
                rfl
              · intro tr act w' hm hout hsz hd hG hk hub
                have h3 := hd ⟨3, .guard⟩ (by simp) rfl _ rfl
                have h6 := hd ⟨6, .data⟩ (by simp) rfl _ rfl
                exact jg_run (by rfl) rfl ((wanted_of rfl rfl (hsz 11 (by decide)) h3).trans rfl) (ex_load1 rfl Try.underlying3 rfl h6 (by rw [(KF2.out.mod hm (fun h => h)).cell]; rfl)) (Mod.refl _ _) rfl
              · intro tr act w' hm hout hsz hd hG hk hub
                have h3 := hd ⟨3, .guard⟩ (by simp) rfl _ rfl
                have h5 := hd ⟨5, .data⟩ (by simp) rfl _ rfl
                have h7 := hd ⟨7, .data⟩ (by simp) rfl _ rfl
                refine jg_run (by rfl) rfl ((wanted_of rfl rfl (hsz 11 (by decide)) h3).trans rfl) (ex_bin rfl h5 h7 (guard_ints _ _ _ _ _ _) (run_lss_i _ _ _ Try.underlying3)) (Mod.refl _ _) ?_
                exact congrArg Value.bool E1.out
              · intro tr act w' hm hout hsz hd hG hk hub
                have h3 := hd ⟨3, .data⟩ (by simp) rfl _ rfl
                have h8 := hd ⟨8, .data⟩ (by simp) rfl _ rfl
                exact jg_run (by rfl) rfl (wanted_none rfl) (ex_pick rfl h3 h8 rfl) (Mod.refl _ _) rfl
              · intro tr act w' hm hout hsz hd hG hk hub
                have h9 := hd ⟨9, .data⟩ (by simp) rfl _ rfl
                exact jg_run (by rfl) rfl (wanted_none rfl) (ex_move rfl h9) (Mod.refl _ _) rfl
              · intro tr act w' hm hout hsz hd hG hk hub
                have h10 := hd ⟨10, .guard⟩ (by simp) rfl _ rfl
                refine jg_run (by rfl) rfl ((wanted_of rfl rfl (hsz 18 (by decide)) h10).trans rfl) (ex_field rfl Try.underlying26 rfl (by kernel_rfl) ((hout 5 (by decide)).trans oe5)) (Mod.refl _ _) ?_
                rfl
              · intro tr act w' hm hout hsz hd hG hk hub
                have h10 := hd ⟨10, .guard⟩ (by simp) rfl _ rfl
                have h11 := hd ⟨11, .data⟩ (by simp) rfl _ rfl
                exact jg_run (by rfl) rfl ((wanted_of rfl rfl (hsz 18 (by decide)) h10).trans rfl) (ex_load1 rfl Try.underlying3 rfl h11 (by rw [(KQ.out.mod hm (fun h => h)).cell]; rfl)) (Mod.refl _ _) rfl
              · intro tr act w' hm hout hsz hd hG hk hub
                have h10 := hd ⟨10, .guard⟩ (by simp) rfl _ rfl
                have h12 := hd ⟨12, .data⟩ (by simp) rfl _ rfl
                refine jg_run (by rfl) rfl ((wanted_of rfl rfl (hsz 18 (by decide)) h10).trans rfl) (ex_bin rfl h12 rfl (guard_ints _ _ _ _ _ _) (run_geq_i _ _ _ Try.underlying3)) (Mod.refl _ _) ?_
                exact congrArg Value.bool E2.out
              · intro tr act w' hm hout hsz hd hG hk hub
                have h10 := hd ⟨10, .data⟩ (by simp) rfl _ rfl
                have h13 := hd ⟨13, .data⟩ (by simp) rfl _ rfl
                exact jg_run (by rfl) rfl (wanted_none rfl) (ex_pick rfl h10 h13 rfl) (Mod.refl _ _) rfl
              · intro tr act w' hm hout hsz hd hG hk hub
                have h14 := hd ⟨14, .data⟩ (by simp) rfl _ rfl
                exact jg_run (by rfl) rfl (wanted_none rfl) (ex_move rfl h14) (Mod.refl _ _) rfl
              · intro tr act w' hm hout hsz hd hG hk hub
                have h15 := hd ⟨15, .guard⟩ (by simp) rfl _ rfl
                refine jg_run (by rfl) rfl ((wanted_of rfl rfl (hsz 23 (by decide)) h15).trans rfl) (ex_field rfl Try.underlying26 rfl (by kernel_rfl) ((hout 5 (by decide)).trans oe5)) (Mod.refl _ _) ?_
                rfl
              · intro tr act w' hm hout hsz hd hG hk hub
                have h15 := hd ⟨15, .guard⟩ (by simp) rfl _ rfl
                have h16 := hd ⟨16, .data⟩ (by simp) rfl _ rfl
                exact jg_run (by rfl) rfl ((wanted_of rfl rfl (hsz 23 (by decide)) h15).trans rfl) (ex_load1 rfl Try.underlying3 rfl h16 (by rw [(KQ.out.mod hm (fun h => h)).cell]; rfl)) (Mod.refl _ _) rfl
              · intro tr act w' hm hout hsz hd hG hk hub
                have h15 := hd ⟨15, .guard⟩ (by simp) rfl _ rfl
                have h17 := hd ⟨17, .data⟩ (by simp) rfl _ rfl
                refine jg_run (by rfl) rfl ((wanted_of rfl rfl (hsz 23 (by decide)) h15).trans rfl) (ex_bin rfl h17 rfl (guard_ints _ _ _ _ _ _) (run_leq_i _ _ _ Try.underlying3)) (Mod.refl _ _) ?_
                exact congrArg Value.bool E3.out
              · intro tr act w' hm hout hsz hd hG hk hub
                have h15 := hd ⟨15, .data⟩ (by simp) rfl _ rfl
                have h18 := hd ⟨18, .data⟩ (by simp) rfl _ rfl
                exact jg_run (by rfl) rfl (wanted_none rfl) (ex_pick rfl h15 h18 rfl) (Mod.refl _ _) rfl
              · intro tr act w' hm hout hsz hd hG hk hub
                have h19 := hd ⟨19, .data⟩ (by simp) rfl _ rfl
                exact jg_run (by rfl) rfl (wanted_none rfl) (ex_move rfl h19) (Mod.refl _ _) rfl
              · intro tr act w' hm hout hsz hd hG hk hub
                have h20 := hd ⟨20, .guard⟩ (by simp) rfl _ rfl
                refine jg_run (by rfl) rfl ((wanted_of rfl rfl (hsz 28 (by decide)) h20).trans rfl) (ex_field rfl Try.underlying32 rfl (by kernel_rfl) ((hout 3 (by decide)).trans oe3)) (Mod.refl _ _) ?_
                rfl
              · intro tr act w' hm hout hsz hd hG hk hub
                have h20 := hd ⟨20, .guard⟩ (by simp) rfl _ rfl
                have h21 := hd ⟨21, .data⟩ (by simp) rfl _ rfl
                exact jg_run (by rfl) rfl ((wanted_of rfl rfl (hsz 28 (by decide)) h20).trans rfl) (ex_load1 rfl Try.underlying3 rfl h21 ((KX2.out.mod hm (fun h => h)).c34 HL.out)) (Mod.refl _ _) rfl
              · intro tr act w' hm hout hsz hd hG hk hub
                have h20 := hd ⟨20, .guard⟩ (by simp) rfl _ rfl
                have h22 := hd ⟨22, .data⟩ (by simp) rfl _ rfl
                refine jg_run (by rfl) rfl ((wanted_of rfl rfl (hsz 28 (by decide)) h20).trans rfl) (ex_bin rfl h22 rfl (guard_ints _ _ _ _ _ _) (run_geq_i _ _ _ Try.underlying3)) (Mod.refl _ _) ?_
                exact congrArg Value.bool E4.out
              · intro tr act w' hm hout hsz hd hG hk hub
                have h20 := hd ⟨20, .data⟩ (by simp) rfl _ rfl
                have h23 := hd ⟨23, .data⟩ (by simp) rfl _ rfl
                exact jg_run (by rfl) rfl (wanted_none rfl) (ex_pick rfl h20 h23 rfl) (Mod.refl _ _) rfl
              · intro tr act w' hm hout hsz hd hG hk hub
                have h24 := hd ⟨24, .data⟩ (by simp) rfl _ rfl
                exact jg_run (by rfl) rfl (wanted_none rfl) (ex_move rfl h24) (Mod.refl _ _) rfl
              · intro tr act w' hm hout hsz hd hG hk hub
                have h25 := hd ⟨25, .guard⟩ (by simp) rfl _ rfl
                refine jg_run (by rfl) rfl ((wanted_of rfl rfl (hsz 33 (by decide)) h25).trans rfl) (ex_field rfl Try.underlying32 rfl (by kernel_rfl) ((hout 3 (by decide)).trans oe3)) (Mod.refl _ _) ?_
                rfl
              · intro tr act w' hm hout hsz hd hG hk hub
                have h25 := hd ⟨25, .guard⟩ (by simp) rfl _ rfl
                have h26 := hd ⟨26, .data⟩ (by simp) rfl _ rfl
                exact jg_run (by rfl) rfl ((wanted_of rfl rfl (hsz 33 (by decide)) h25).trans rfl) (ex_load1 rfl Try.underlying3 rfl h26 ((KX2.out.mod hm (fun h => h)).c34 HL.out)) (Mod.refl _ _) rfl
              · intro tr act w' hm hout hsz hd hG hk hub
                have h25 := hd ⟨25, .guard⟩ (by simp) rfl _ rfl
                have h27 := hd ⟨27, .data⟩ (by simp) rfl _ rfl
                refine jg_run (by rfl) rfl ((wanted_of rfl rfl (hsz 33 (by decide)) h25).trans rfl) (ex_bin rfl h27 rfl (guard_ints _ _ _ _ _ _) (run_leq_i _ _ _ Try.underlying3)) (Mod.refl _ _) ?_
                exact congrArg Value.bool E5.out
              · intro tr act w' hm hout hsz hd hG hk hub
                have h25 := hd ⟨25, .data⟩ (by simp) rfl _ rfl
                have h28 := hd ⟨28, .data⟩ (by simp) rfl _ rfl
                exact jg_run (by rfl) rfl (wanted_none rfl) (ex_pick rfl h25 h28 rfl) (Mod.refl _ _) rfl
              · intro tr act w' hm hout hsz hd hG hk hub
                have h29 := hd ⟨29, .data⟩ (by simp) rfl _ rfl
                exact jg_run (by rfl) rfl (wanted_none rfl) (ex_assign rfl h29) (Mod.refl _ _) rfl
              intro vs tr w3 hl htl hm hG hV
              obtain ⟨v0, vs0, rfl, hl0⟩ := list_cons hl
              obtain ⟨v1, vs1, rfl, hl1⟩ := list_cons hl0
              obtain ⟨v2, vs2, rfl, hl2⟩ := list_cons hl1
              obtain ⟨v3, vs3, rfl, hl3⟩ := list_cons hl2
              obtain ⟨v4, vs4, rfl, hl4⟩ := list_cons hl3
              obtain ⟨v5, vs5, rfl, hl5⟩ := list_cons hl4
              obtain ⟨v6, vs6, rfl, hl6⟩ := list_cons hl5
              obtain ⟨v7, vs7, rfl, hl7⟩ := list_cons hl6
              obtain ⟨v8, vs8, rfl, hl8⟩ := list_cons hl7
              obtain ⟨v9, vs9, rfl, hl9⟩ := list_cons hl8
              obtain ⟨v10, vs10, rfl, hl10⟩ := list_cons hl9
              obtain ⟨v11, vs11, rfl, hl11⟩ := list_cons hl10
              obtain ⟨v12, vs12, rfl, hl12⟩ := list_cons hl11
              obtain ⟨v13, vs13, rfl, hl13⟩ := list_cons hl12
              obtain ⟨v14, vs14, rfl, hl14⟩ := list_cons hl13
              obtain ⟨v15, vs15, rfl, hl15⟩ := list_cons hl14
              obtain ⟨v16, vs16, rfl, hl16⟩ := list_cons hl15
              obtain ⟨v17, vs17, rfl, hl17⟩ := list_cons hl16
              obtain ⟨v18, vs18, rfl, hl18⟩ := list_cons hl17
              obtain ⟨v19, vs19, rfl, hl19⟩ := list_cons hl18
              obtain ⟨v20, vs20, rfl, hl20⟩ := list_cons hl19
              obtain ⟨v21, vs21, rfl, hl21⟩ := list_cons hl20
              obtain ⟨v22, vs22, rfl, hl22⟩ := list_cons hl21
              obtain ⟨v23, vs23, rfl, hl23⟩ := list_cons hl22
              obtain ⟨v24, vs24, rfl, hl24⟩ := list_cons hl23
              obtain ⟨v25, vs25, rfl, hl25⟩ := list_cons hl24
              obtain ⟨v26, vs26, rfl, hl26⟩ := list_cons hl25
              obtain ⟨v27, vs27, rfl, hl27⟩ := list_cons hl26
              obtain ⟨v28, vs28, rfl, hl28⟩ := list_cons hl27
              obtain ⟨v29, vs29, rfl, hl29⟩ := list_cons hl28
              obtain ⟨v30, vs30, rfl, hl30⟩ := list_cons hl29
              obtain rfl := list_nil hl30
              clear hl hl0 hl1 hl2 hl3 hl4 hl5 hl6 hl7 hl8 hl9 hl10 hl11 hl12 hl13 hl14 hl15 hl16 hl17 hl18 hl19 hl20 hl21 hl22 hl23 hl24 hl25 hl26 hl27 hl28 hl29 hl30
              obtain rfl : v30 = .bool true := hV 30 _ rfl
              have ha0 := HA0.out
              subst ha0
              clear HA0 hV hsz0 oe2 oe3 oe5
              simp only [putAll, Act.put, List.setIfInBounds_toArray, List.set_cons_zero, List.set_cons_succ]
              have KM3 := Lib.hid (KM2.out.trans hm (fun _ _ h => h))
              clear hm hG
              go_wp2
              go_ret
              exact ⟨congrArg (fun z => Ending.returned (Value.bool z)) (show true = validF k c by unfold validF; (simp only [E0.out, E1.out, E2.out, E3.out, E4.out, E5.out, Bool.true_and] <;> rfl)), KM3.out⟩
            · have E5 := Lib.hid (decide_eq_false c5)
              clear c5
              go_upto_region 2 with (fail)
              generalize ha0 : Act.mk _ _ = a0
              have oe2 : a0.eval (.tmp 2) = .pointer (some ⟨w.heap.size, 0, none⟩) := by rw [← ha0]; rfl
              have oe3 : a0.eval (.tmp 3) = .pointer (some ⟨w.heap.size + 1, 0, none⟩) := by rw [← ha0]; rfl
              have oe5 : a0.eval (.tmp 5) = .pointer (some ⟨q0, 0, none⟩) := by rw [← ha0]; rfl
              have hsz0 : a0.tmps.size = 38 := by rw [← ha0]; rfl
              have HA0 := Lib.hid ha0
              clear ha0
              refine wp_region_G 38 hsz0 (by kernel_rfl) (by kernel_rfl) [8, 9, 10, 11, 12, 13, 14, 15, 16, 17, 18, 19, 20, 21, 22, 23, 24, 25, 26, 27, 28, 29, 30, 31, 32, 33, 34, 35, 36, 37, 4] (by kernel_rfl) (by decide) (fun _ => False) (fun _ _ => False) (fun _ _ h => h) Still (fun _ _ _ h => h) (fun _ _ _ hm h => hm.trans h (fun _ _ h => h.elim)) [gi (.pointer (some ⟨q0, 0, none⟩)), gi (.int .i64 c.cl), gi (.bool true), gi (.bool true), gi (.pointer (some ⟨q0, 0, none⟩)), gi (.int .i64 c.cl), gi (.pointer (some ⟨w.heap.size, 1, none⟩)), gi (.int .i64 k), gi (.bool true), gi (.bool true), gi (.bool true), gi (.pointer (some ⟨q0, 1, none⟩)), gi (.int .i64 c.sq), gi (.bool true), gi (.bool true), gi (.bool true), gi (.pointer (some ⟨q0, 1, none⟩)), gi (.int .i64 c.sq), gi (.bool true), gi (.bool true), gi (.bool true), gi (.pointer (some ⟨w.heap.size + 1, 34, none⟩)), gi (.int .i64 c.ln), gi (.bool true), gi (.bool true), gi (.bool true), gi (.pointer (some ⟨w.heap.size + 1, 34, none⟩)), gi (.int .i64 c.ln), gi (.bool false), gi (.bool false), gi (.bool false)] ⟨gi_stable, gi_stable, gi_stable, gi_stable, gi_stable, gi_stable, gi_stable, gi_stable, gi_stable, gi_stable, gi_stable, gi_stable, gi_stable, gi_stable, gi_stable, gi_stable, gi_stable, gi_stable, gi_stable, gi_stable, gi_stable, gi_stable, gi_stable, gi_stable, gi_stable, gi_stable, gi_stable, gi_stable, gi_stable, gi_stable, gi_stable, trivial⟩ [] (by kernel_rfl) (by decide) (by kernel_rfl) (fun _ _ => True) (fun _ _ _ _ _ => trivial) trivial ⟨?_, ?_, ?_, ?_, ?_, ?_, ?_, ?_, ?_, ?_, ?_, ?_, ?_, ?_, ?_, ?_, ?_, ?_, ?_, ?_, ?_, ?_, ?_, ?_, ?_, ?_, ?_, ?_, ?_, ?_, ?_, trivial⟩ ?_
              · intro tr act w' hm hout hsz hd hG hk hub
                refine jg_run (by rfl) rfl (wanted_none rfl) (ex_field rfl Try.underlying26 rfl (by kernel_rfl) ((hout 5 (by decide)).trans oe5)) (Mod.refl _ _) ?_
                rfl
              · intro tr act w' hm hout hsz hd hG hk hub
                have h0 := hd ⟨0, .data⟩ (by simp) rfl _ rfl
                exact jg_run (by rfl) rfl (wanted_none rfl) (ex_load1 rfl Try.underlying3 rfl h0 (by rw [(KQ.out.mod hm (fun h => h)).cell]; rfl)) (Mod.refl _ _) rfl
              · intro tr act w' hm hout hsz hd hG hk hub
                have h1 := hd ⟨1, .data⟩ (by simp) rfl _ rfl
                refine jg_run (by rfl) rfl (wanted_none rfl) (ex_bin rfl h1 rfl (guard_ints _ _ _ _ _ _) (run_geq_i _ _ _ Try.underlying3)) (Mod.refl _ _) ?_
                exact congrArg Value.bool E0.out
              · intro tr act w' hm hout hsz hd hG hk hub
                have h2 := hd ⟨2, .data⟩ (by simp) rfl _ rfl
                exact jg_run (by rfl) rfl (wanted_none rfl) (ex_move rfl h2) (Mod.refl _ _) rfl
              · intro tr act w' hm hout hsz hd hG hk hub
                have h3 := hd ⟨3, .guard⟩ (by simp) rfl _ rfl
                refine jg_run (by rfl) rfl ((wanted_of rfl rfl (hsz 11 (by decide)) h3).trans rfl) (ex_field rfl Try.underlying26 rfl (by kernel_rfl) ((hout 5 (by decide)).trans oe5)) (Mod.refl _ _) ?_
                rfl
              · intro tr act w' hm hout hsz hd hG hk hub
                have h3 := hd ⟨3, .guard⟩ (by simp) rfl _ rfl
                have h4 := hd ⟨4, .data⟩ (by simp) rfl _ rfl
                exact jg_run (by rfl) rfl ((wanted_of rfl rfl (hsz 11 (by decide)) h3).trans rfl) (ex_load1 rfl Try.underlying3 rfl h4 (by rw [(KQ.out.mod hm (fun h => h)).cell]; rfl)) (Mod.refl _ _) rfl
              · intro tr act w' hm hout hsz hd hG hk hub
                have h3 := hd ⟨3, .guard⟩ (by simp) rfl _ rfl
                refine jg_run (by rfl) rfl ((wanted_of rfl rfl (hsz 11 (by decide)) h3).trans rfl) (ex_field rfl Try.underlying24 rfl (by kernel_rfl) ((hout 2 (by decide)).trans oe2)) (Mod.refl _ _) ?_
                rfl
              · intro tr act w' hm hout hsz hd hG hk hub
                have h3 := hd ⟨3, .guard⟩ (by simp) rfl _ rfl
                have h6 := hd ⟨6, .data⟩ (by simp) rfl _ rfl
                exact jg_run (by rfl) rfl ((wanted_of rfl rfl (hsz 11 (by decide)) h3).trans rfl) (ex_load1 rfl Try.underlying3 rfl h6 (by rw [(KF2.out.mod hm (fun h => h)).cell]; rfl)) (Mod.refl _ _) rfl
              · intro tr act w' hm hout hsz hd hG hk hub
                have h3 := hd ⟨3, .guard⟩ (by simp) rfl _ rfl
                have h5 := hd ⟨5, .data⟩ (by simp) rfl _ rfl
                have h7 := hd ⟨7, .data⟩ (by simp) rfl _ rfl
                refine jg_run (by rfl) rfl ((wanted_of rfl rfl (hsz 11 (by decide)) h3).trans rfl) (ex_bin rfl h5 h7 (guard_ints _ _ _ _ _ _) (run_lss_i _ _ _ Try.underlying3)) (Mod.refl _ _) ?_
                exact congrArg Value.bool E1.out
              · intro tr act w' hm hout hsz hd hG hk hub
                have h3 := hd ⟨3, .data⟩ (by simp) rfl _ rfl
                have h8 := hd ⟨8, .data⟩ (by simp) rfl _ rfl
                exact jg_run (by rfl) rfl (wanted_none rfl) (ex_pick rfl h3 h8 rfl) (Mod.refl _ _) rfl
              · intro tr act w' hm hout hsz hd hG hk hub
                have h9 := hd ⟨9, .data⟩ (by simp) rfl _ rfl
                exact jg_run (by rfl) rfl (wanted_none rfl) (ex_move rfl h9) (Mod.refl _ _) rfl
              · intro tr act w' hm hout hsz hd hG hk hub
                have h10 := hd ⟨10, .guard⟩ (by simp) rfl _ rfl
                refine jg_run (by rfl) rfl ((wanted_of rfl rfl (hsz 18 (by decide)) h10).trans rfl) (ex_field rfl Try.underlying26 rfl (by kernel_rfl) ((hout 5 (by decide)).trans oe5)) (Mod.refl _ _) ?_
                rfl
              · intro tr act w' hm hout hsz hd hG hk hub
                have h10 := hd ⟨10, .guard⟩ (by simp) rfl _ rfl
                have h11 := hd ⟨11, .data⟩ (by simp) rfl _ rfl
                exact jg_run (by rfl) rfl ((wanted_of rfl rfl (hsz 18 (by decide)) h10).trans rfl) (ex_load1 rfl Try.underlying3 rfl h11 (by rw [(KQ.out.mod hm (fun h => h)).cell]; rfl)) (Mod.refl _ _) rfl
              · intro tr act w' hm hout hsz hd hG hk hub
                have h10 := hd ⟨10, .guard⟩ (by simp) rfl _ rfl
                have h12 := hd ⟨12, .data⟩ (by simp) rfl _ rfl
                refine jg_run (by rfl) rfl ((wanted_of rfl rfl (hsz 18 (by decide)) h10).trans rfl) (ex_bin rfl h12 rfl (guard_ints _ _ _ _ _ _) (run_geq_i _ _ _ Try.underlying3)) (Mod.refl _ _) ?_
                exact congrArg Value.bool E2.out
              · intro tr act w' hm hout hsz hd hG hk hub
                have h10 := hd ⟨10, .data⟩ (by simp) rfl _ rfl
                have h13 := hd ⟨13, .data⟩ (by simp) rfl _ rfl
                exact jg_run (by rfl) rfl (wanted_none rfl) (ex_pick rfl h10 h13 rfl) (Mod.refl _ _) rfl
              · intro tr act w' hm hout hsz hd hG hk hub
                have h14 := hd ⟨14, .data⟩ (by simp) rfl _ rfl
                exact jg_run (by rfl) rfl (wanted_none rfl) (ex_move rfl h14) (Mod.refl _ _) rfl
              · intro tr act w' hm hout hsz hd hG hk hub
                have h15 := hd ⟨15, .guard⟩ (by simp) rfl _ rfl
                refine jg_run (by rfl) rfl ((wanted_of rfl rfl (hsz 23 (by decide)) h15).trans rfl) (ex_field rfl Try.underlying26 rfl (by kernel_rfl) ((hout 5 (by decide)).trans oe5)) (Mod.refl _ _) ?_
                rfl
              · intro tr act w' hm hout hsz hd hG hk hub
                have h15 := hd ⟨15, .guard⟩ (by simp) rfl _ rfl
                have h16 := hd ⟨16, .data⟩ (by simp) rfl _ rfl
                exact jg_run (by rfl) rfl ((wanted_of rfl rfl (hsz 23 (by decide)) h15).trans rfl) (ex_load1 rfl Try.underlying3 rfl h16 (by rw [(KQ.out.mod hm (fun h => h)).cell]; rfl)) (Mod.refl _ _) rfl
              · intro tr act w' hm hout hsz hd hG hk hub
                have h15 := hd ⟨15, .guard⟩ (by simp) rfl _ rfl
                have h17 := hd ⟨17, .data⟩ (by simp) rfl _ rfl
                refine jg_run (by rfl) rfl ((wanted_of rfl rfl (hsz 23 (by decide)) h15).trans rfl) (ex_bin rfl h17 rfl (guard_ints _ _ _ _ _ _) (run_leq_i _ _ _ Try.underlying3)) (Mod.refl _ _) ?_
                exact congrArg Value.bool E3.out
              · intro tr act w' hm hout hsz hd hG hk hub
                have h15 := hd ⟨15, .data⟩ (by simp) rfl _ rfl
                have h18 := hd ⟨18, .data⟩ (by simp) rfl _ rfl
                exact jg_run (by rfl) rfl (wanted_none rfl) (ex_pick rfl h15 h18 rfl) (Mod.refl _ _) rfl
              · intro tr act w' hm hout hsz hd hG hk hub
                have h19 := hd ⟨19, .data⟩ (by simp) rfl _ rfl
                exact jg_run (by rfl) rfl (wanted_none rfl) (ex_move rfl h19) (Mod.refl _ _) rfl
              · intro tr act w' hm hout hsz hd hG hk hub
                have h20 := hd ⟨20, .guard⟩ (by simp) rfl _ rfl
                refine jg_run (by rfl) rfl ((wanted_of rfl rfl (hsz 28 (by decide)) h20).trans rfl) (ex_field rfl Try.underlying32 rfl (by kernel_rfl) ((hout 3 (by decide)).trans oe3)) (Mod.refl _ _) ?_
                rfl
              · intro tr act w' hm hout hsz hd hG hk hub
                have h20 := hd ⟨20, .guard⟩ (by simp) rfl _ rfl
                have h21 := hd ⟨21, .data⟩ (by simp) rfl _ rfl
                exact jg_run (by rfl) rfl ((wanted_of rfl rfl (hsz 28 (by decide)) h20).trans rfl) (ex_load1 rfl Try.underlying3 rfl h21 ((KX2.out.mod hm (fun h => h)).c34 HL.out)) (Mod.refl _ _) rfl
              · intro tr act w' hm hout hsz hd hG hk hub
                have h20 := hd ⟨20, .guard⟩ (by simp) rfl _ rfl
                have h22 := hd ⟨22, .data⟩ (by simp) rfl _ rfl
                refine jg_run (by rfl) rfl ((wanted_of rfl rfl (hsz 28 (by decide)) h20).trans rfl) (ex_bin rfl h22 rfl (guard_ints _ _ _ _ _ _) (run_geq_i _ _ _ Try.underlying3)) (Mod.refl _ _) ?_
                exact congrArg Value.bool E4.out
              · intro tr act w' hm hout hsz hd hG hk hub
                have h20 := hd ⟨20, .data⟩ (by simp) rfl _ rfl
                have h23 := hd ⟨23, .data⟩ (by simp) rfl _ rfl
                exact jg_run (by rfl) rfl (wanted_none rfl) (ex_pick rfl h20 h23 rfl) (Mod.refl _ _) rfl
              · intro tr act w' hm hout hsz hd hG hk hub
                have h24 := hd ⟨24, .data⟩ (by simp) rfl _ rfl
                exact jg_run (by rfl) rfl (wanted_none rfl) (ex_move rfl h24) (Mod.refl _ _) rfl
              · intro tr act w' hm hout hsz hd hG hk hub
                have h25 := hd ⟨25, .guard⟩ (by simp) rfl _ rfl
                refine jg_run (by rfl) rfl ((wanted_of rfl rfl (hsz 33 (by decide)) h25).trans rfl) (ex_field rfl Try.underlying32 rfl (by kernel_rfl) ((hout 3 (by decide)).trans oe3)) (Mod.refl _ _) ?_
                rfl
              · intro tr act w' hm hout hsz hd hG hk hub
                have h25 := hd ⟨25, .guard⟩ (by simp) rfl _ rfl
                have h26 := hd ⟨26, .data⟩ (by simp) rfl _ rfl
                exact jg_run (by rfl) rfl ((wanted_of rfl rfl (hsz 33 (by decide)) h25).trans rfl) (ex_load1 rfl Try.underlying3 rfl h26 ((KX2.out.mod hm (fun h => h)).c34 HL.out)) (Mod.refl _ _) rfl
              · intro tr act w' hm hout hsz hd hG hk hub
                have h25 := hd ⟨25, .guard⟩ (by simp) rfl _ rfl
                have h27 := hd ⟨27, .data⟩ (by simp) rfl _ rfl
                refine jg_run (by rfl) rfl ((wanted_of rfl rfl (hsz 33 (by decide)) h25).trans rfl) (ex_bin rfl h27 rfl (guard_ints _ _ _ _ _ _) (run_leq_i _ _ _ Try.underlying3)) (Mod.refl _ _) ?_
                exact congrArg Value.bool E5.out
              · intro tr act w' hm hout hsz hd hG hk hub
                have h25 := hd ⟨25, .data⟩ (by simp) rfl _ rfl
                have h28 := hd ⟨28, .data⟩ (by simp) rfl _ rfl
                exact jg_run (by rfl) rfl (wanted_none rfl) (ex_pick rfl h25 h28 rfl) (Mod.refl _ _) rfl
              · intro tr act w' hm hout hsz hd hG hk hub
                have h29 := hd ⟨29, .data⟩ (by simp) rfl _ rfl
                exact jg_run (by rfl) rfl (wanted_none rfl) (ex_assign rfl h29) (Mod.refl _ _) rfl
              intro vs tr w3 hl htl hm hG hV
              obtain ⟨v0, vs0, rfl, hl0⟩ := list_cons hl
              obtain ⟨v1, vs1, rfl, hl1⟩ := list_cons hl0
              obtain ⟨v2, vs2, rfl, hl2⟩ := list_cons hl1
              obtain ⟨v3, vs3, rfl, hl3⟩ := list_cons hl2
              obtain ⟨v4, vs4, rfl, hl4⟩ := list_cons hl3
              obtain ⟨v5, vs5, rfl, hl5⟩ := list_cons hl4
              obtain ⟨v6, vs6, rfl, hl6⟩ := list_cons hl5
              obtain ⟨v7, vs7, rfl, hl7⟩ := list_cons hl6
              obtain ⟨v8, vs8, rfl, hl8⟩ := list_cons hl7
              obtain ⟨v9, vs9, rfl, hl9⟩ := list_cons hl8
              obtain ⟨v10, vs10, rfl, hl10⟩ := list_cons hl9
              obtain ⟨v11, vs11, rfl, hl11⟩ := list_cons hl10
              obtain ⟨v12, vs12, rfl, hl12⟩ := list_cons hl11
              obtain ⟨v13, vs13, rfl, hl13⟩ := list_cons hl12
              obtain ⟨v14, vs14, rfl, hl14⟩ := list_cons hl13
              obtain ⟨v15, vs15, rfl, hl15⟩ := list_cons hl14
              obtain ⟨v16, vs16, rfl, hl16⟩ := list_cons hl15
              obtain ⟨v17, vs17, rfl, hl17⟩ := list_cons hl16
              obtain ⟨v18, vs18, rfl, hl18⟩ := list_cons hl17
              obtain ⟨v19, vs19, rfl, hl19⟩ := list_cons hl18
              obtain ⟨v20, vs20, rfl, hl20⟩ := list_cons hl19
              obtain ⟨v21, vs21, rfl, hl21⟩ := list_cons hl20
              obtain ⟨v22, vs22, rfl, hl22⟩ := list_cons hl21
              obtain ⟨v23, vs23, rfl, hl23⟩ := list_cons hl22
              obtain ⟨v24, vs24, rfl, hl24⟩ := list_cons hl23
              obtain ⟨v25, vs25, rfl, hl25⟩ := list_cons hl24
              obtain ⟨v26, vs26, rfl, hl26⟩ := list_cons hl25
              obtain ⟨v27, vs27, rfl, hl27⟩ := list_cons hl26
              obtain ⟨v28, vs28, rfl, hl28⟩ := list_cons hl27
              obtain ⟨v29, vs29, rfl, hl29⟩ := list_cons hl28
              obtain ⟨v30, vs30, rfl, hl30⟩ := list_cons hl29
              obtain rfl := list_nil hl30
              clear hl hl0 hl1 hl2 hl3 hl4 hl5 hl6 hl7 hl8 hl9 hl10 hl11 hl12 hl13 hl14 hl15 hl16 hl17 hl18 hl19 hl20 hl21 hl22 hl23 hl24 hl25 hl26 hl27 hl28 hl29 hl30
              obtain rfl : v30 = .bool false := hV 30 _ rfl
              have ha0 := HA0.out
              subst ha0
              clear HA0 hV hsz0 oe2 oe3 oe5
              simp only [putAll, Act.put, List.setIfInBounds_toArray, List.set_cons_zero, List.set_cons_succ]
              have KM3 := Lib.hid (KM2.out.trans hm (fun _ _ h => h))
              clear hm hG
              go_wp2
              go_ret
              exact ⟨congrArg (fun z => Ending.returned (Value.bool z)) (show false = validF k c by unfold validF; (simp only [E0.out, E1.out, E2.out, E3.out, E4.out, E5.out, Bool.true_and] <;> rfl)), KM3.out⟩
          · have E4 := Lib.hid (decide_eq_false c4)
            clear c4
            go_upto_region 2 with (fail)
            generalize ha0 : Act.mk _ _ = a0
            have oe2 : a0.eval (.tmp 2) = .pointer (some ⟨w.heap.size, 0, none⟩) := by rw [← ha0]; rfl
            have oe3 : a0.eval (.tmp 3) = .pointer (some ⟨w.heap.size + 1, 0, none⟩) := by rw [← ha0]; rfl
            have oe5 : a0.eval (.tmp 5) = .pointer (some ⟨q0, 0, none⟩) := by rw [← ha0]; rfl
            have hsz0 : a0.tmps.size = 38 := by rw [← ha0]; rfl
            have HA0 := Lib.hid ha0
            clear ha0
            refine wp_region_G 38 hsz0 (by kernel_rfl) (by kernel_rfl) [8, 9, 10, 11, 12, 13, 14, 15, 16, 17, 18, 19, 20, 21, 22, 23, 24, 25, 26, 27, 28, 29, 30, 31, 32, 33, 34, 35, 36, 37, 4] (by kernel_rfl) (by decide) (fun _ => False) (fun _ _ => False) (fun _ _ h => h) Still (fun _ _ _ h => h) (fun _ _ _ hm h => hm.trans h (fun _ _ h => h.elim)) [gi (.pointer (some ⟨q0, 0, none⟩)), gi (.int .i64 c.cl), gi (.bool true), gi (.bool true), gi (.pointer (some ⟨q0, 0, none⟩)), gi (.int .i64 c.cl), gi (.pointer (some ⟨w.heap.size, 1, none⟩)), gi (.int .i64 k), gi (.bool true), gi (.bool true), gi (.bool true), gi (.pointer (some ⟨q0, 1, none⟩)), gi (.int .i64 c.sq), gi (.bool true), gi (.bool true), gi (.bool true), gi (.pointer (some ⟨q0, 1, none⟩)), gi (.int .i64 c.sq), gi (.bool true), gi (.bool true), gi (.bool true), gi (.pointer (some ⟨w.heap.size + 1, 34, none⟩)), gi (.int .i64 c.ln), gi (.bool false), gi (.bool false), gi (.bool false), gi (undef), gi (undef), gi (undef), gi (.bool false), gi (.bool false)] ⟨gi_stable, gi_stable, gi_stable, gi_stable, gi_stable, gi_stable, gi_stable, gi_stable, gi_stable, gi_stable, gi_stable, gi_stable, gi_stable, gi_stable, gi_stable, gi_stable, gi_stable, gi_stable, gi_stable, gi_stable, gi_stable, gi_stable, gi_stable, gi_stable, gi_stable, gi_stable, gi_stable, gi_stable, gi_stable, gi_stable, gi_stable, trivial⟩ [] (by kernel_rfl) (by decide) (by kernel_rfl) (fun _ _ => True) (fun _ _ _ _ _ => trivial) trivial ⟨?_, ?_, ?_, ?_, ?_, ?_, ?_, ?_, ?_, ?_, ?_, ?_, ?_, ?_, ?_, ?_, ?_, ?_, ?_, ?_, ?_, ?_, ?_, ?_, ?_, ?_, ?_, ?_, ?_, ?_, ?_, trivial⟩ ?_
            · intro tr act w' hm hout hsz hd hG hk hub
              refine jg_run (by rfl) rfl (wanted_none rfl) (ex_field rfl Try.underlying26 rfl (by kernel_rfl) ((hout 5 (by decide)).trans oe5)) (Mod.refl _ _) ?_
              rfl
            · intro tr act w' hm hout hsz hd hG hk hub
              have h0 := hd ⟨0, .data⟩ (by simp) rfl _ rfl
              exact jg_run (by rfl) rfl (wanted_none rfl) (ex_load1 rfl Try.underlying3 rfl h0 (by rw [(KQ.out.mod hm (fun h => h)).cell]; rfl)) (Mod.refl _ _) rfl
            · intro tr act w' hm hout hsz hd hG hk hub
              have h1 := hd ⟨1, .data⟩ (by simp) rfl _ rfl
              refine jg_run (by rfl) rfl (wanted_none rfl) (ex_bin rfl h1 rfl (guard_ints _ _ _ _ _ _) (run_geq_i _ _ _ Try.underlying3)) (Mod.refl _ _) ?_
              exact congrArg Value.bool E0.out
            · intro tr act w' hm hout hsz hd hG hk hub
              have h2 := hd ⟨2, .data⟩ (by simp) rfl _ rfl
              exact jg_run (by rfl) rfl (wanted_none rfl) (ex_move rfl h2) (Mod.refl _ _) rfl
            · intro tr act w' hm hout hsz hd hG hk hub
              have h3 := hd ⟨3, .guard⟩ (by simp) rfl _ rfl
              refine jg_run (by rfl) rfl ((wanted_of rfl rfl (hsz 11 (by decide)) h3).trans rfl) (ex_field rfl Try.underlying26 rfl (by kernel_rfl) ((hout 5 (by decide)).trans oe5)) (Mod.refl _ _) ?_
              rfl
            · intro tr act w' hm hout hsz hd hG hk hub
              have h3 := hd ⟨3, .guard⟩ (by simp) rfl _ rfl
              have h4 := hd ⟨4, .data⟩ (by simp) rfl _ rfl
              exact jg_run (by rfl) rfl ((wanted_of rfl rfl (hsz 11 (by decide)) h3).trans rfl) (ex_load1 rfl Try.underlying3 rfl h4 (by rw [(KQ.out.mod hm (fun h => h)).cell]; rfl)) (Mod.refl _ _) rfl
            · intro tr act w' hm hout hsz hd hG hk hub
              have h3 := hd ⟨3, .guard⟩ (by simp) rfl _ rfl
              refine jg_run (by rfl) rfl ((wanted_of rfl rfl (hsz 11 (by decide)) h3).trans rfl) (ex_field rfl Try.underlying24 rfl (by kernel_rfl) ((hout 2 (by decide)).trans oe2)) (Mod.refl _ _) ?_
              rfl
            · intro tr act w' hm hout hsz hd hG hk hub
              have h3 := hd ⟨3, .guard⟩ (by simp) rfl _ rfl
              have h6 := hd ⟨6, .data⟩ (by simp) rfl _ rfl
              exact jg_run (by rfl) rfl ((wanted_of rfl rfl (hsz 11 (by decide)) h3).trans rfl) (ex_load1 rfl Try.underlying3 rfl h6 (by rw [(KF2.out.mod hm (fun h => h)).cell]; rfl)) (Mod.refl _ _) rfl
            · intro tr act w' hm hout hsz hd hG hk hub
              have h3 := hd ⟨3, .guard⟩ (by simp) rfl _ rfl
              have h5 := hd ⟨5, .data⟩ (by simp) rfl _ rfl
              have h7 := hd ⟨7, .data⟩ (by simp) rfl _ rfl
              refine jg_run (by rfl) rfl ((wanted_of rfl rfl (hsz 11 (by decide)) h3).trans rfl) (ex_bin rfl h5 h7 (guard_ints _ _ _ _ _ _) (run_lss_i _ _ _ Try.underlying3)) (Mod.refl _ _) ?_
              exact congrArg Value.bool E1.out
            · intro tr act w' hm hout hsz hd hG hk hub
              have h3 := hd ⟨3, .data⟩ (by simp) rfl _ rfl
              have h8 := hd ⟨8, .data⟩ (by simp) rfl _ rfl
              exact jg_run (by rfl) rfl (wanted_none rfl) (ex_pick rfl h3 h8 rfl) (Mod.refl _ _) rfl
            · intro tr act w' hm hout hsz hd hG hk hub
              have h9 := hd ⟨9, .data⟩ (by simp) rfl _ rfl
              exact jg_run (by rfl) rfl (wanted_none rfl) (ex_move rfl h9) (Mod.refl _ _) rfl
            · intro tr act w' hm hout hsz hd hG hk hub
              have h10 := hd ⟨10, .guard⟩ (by simp) rfl _ rfl
              refine jg_run (by rfl) rfl ((wanted_of rfl rfl (hsz 18 (by decide)) h10).trans rfl) (ex_field rfl Try.underlying26 rfl (by kernel_rfl) ((hout 5 (by decide)).trans oe5)) (Mod.refl _ _) ?_
              rfl
            · intro tr act w' hm hout hsz hd hG hk hub
              have h10 := hd ⟨10, .guard⟩ (by simp) rfl _ rfl
              have h11 := hd ⟨11, .data⟩ (by simp) rfl _ rfl
              exact jg_run (by rfl) rfl ((wanted_of rfl rfl (hsz 18 (by decide)) h10).trans rfl) (ex_load1 rfl Try.underlying3 rfl h11 (by rw [(KQ.out.mod hm (fun h => h)).cell]; rfl)) (Mod.refl _ _) rfl
            · intro tr act w' hm hout hsz hd hG hk hub
              have h10 := hd ⟨10, .guard⟩ (by simp) rfl _ rfl
              have h12 := hd ⟨12, .data⟩ (by simp) rfl _ rfl
              refine jg_run (by rfl) rfl ((wanted_of rfl rfl (hsz 18 (by decide)) h10).trans rfl) (ex_bin rfl h12 rfl (guard_ints _ _ _ _ _ _) (run_geq_i _ _ _ Try.underlying3)) (Mod.refl _ _) ?_
              exact congrArg Value.bool E2.out
            · intro tr act w' hm hout hsz hd hG hk hub
              have h10 := hd ⟨10, .data⟩ (by simp) rfl _ rfl
              have h13 := hd ⟨13, .data⟩ (by simp) rfl _ rfl
              exact jg_run (by rfl) rfl (wanted_none rfl) (ex_pick rfl h10 h13 rfl) (Mod.refl _ _) rfl
            · intro tr act w' hm hout hsz hd hG hk hub
              have h14 := hd ⟨14, .data⟩ (by simp) rfl _ rfl
              exact jg_run (by rfl) rfl (wanted_none rfl) (ex_move rfl h14) (Mod.refl _ _) rfl
            · intro tr act w' hm hout hsz hd hG hk hub
              have h15 := hd ⟨15, .guard⟩ (by simp) rfl _ rfl
              refine jg_run (by rfl) rfl ((wanted_of rfl rfl (hsz 23 (by decide)) h15).trans rfl) (ex_field rfl Try.underlying26 rfl (by kernel_rfl) ((hout 5 (by decide)).trans oe5)) (Mod.refl _ _) ?_
              rfl
            · intro tr act w' hm hout hsz hd hG hk hub
              have h15 := hd ⟨15, .guard⟩ (by simp) rfl _ rfl
              have h16 := hd ⟨16, .data⟩ (by simp) rfl _ rfl
              exact jg_run (by rfl) rfl ((wanted_of rfl rfl (hsz 23 (by decide)) h15).trans rfl) (ex_load1 rfl Try.underlying3 rfl h16 (by rw [(KQ.out.mod hm (fun h => h)).cell]; rfl)) (Mod.refl _ _) rfl
            · intro tr act w' hm hout hsz hd hG hk hub
              have h15 := hd ⟨15, .guard⟩ (by simp) rfl _ rfl
              have h17 := hd ⟨17, .data⟩ (by simp) rfl _ rfl
              refine jg_run (by rfl) rfl ((wanted_of rfl rfl (hsz 23 (by decide)) h15).trans rfl) (ex_bin rfl h17 rfl (guard_ints _ _ _ _ _ _) (run_leq_i _ _ _ Try.underlying3)) (Mod.refl _ _) ?_
              exact congrArg Value.bool E3.out
            · intro tr act w' hm hout hsz hd hG hk hub
              have h15 := hd ⟨15, .data⟩ (by simp) rfl _ rfl
              have h18 := hd ⟨18, .data⟩ (by simp) rfl _ rfl
              exact jg_run (by rfl) rfl (wanted_none rfl) (ex_pick rfl h15 h18 rfl) (Mod.refl _ _) rfl
            · intro tr act w' hm hout hsz hd hG hk hub
              have h19 := hd ⟨19, .data⟩ (by simp) rfl _ rfl
              exact jg_run (by rfl) rfl (wanted_none rfl) (ex_move rfl h19) (Mod.refl _ _) rfl
            · intro tr act w' hm hout hsz hd hG hk hub
              have h20 := hd ⟨20, .guard⟩ (by simp) rfl _ rfl
              refine jg_run (by rfl) rfl ((wanted_of rfl rfl (hsz 28 (by decide)) h20).trans rfl) (ex_field rfl Try.underlying32 rfl (by kernel_rfl) ((hout 3 (by decide)).trans oe3)) (Mod.refl _ _) ?_
              rfl
            · intro tr act w' hm hout hsz hd hG hk hub
              have h20 := hd ⟨20, .guard⟩ (by simp) rfl _ rfl
              have h21 := hd ⟨21, .data⟩ (by simp) rfl _ rfl
              exact jg_run (by rfl) rfl ((wanted_of rfl rfl (hsz 28 (by decide)) h20).trans rfl) (ex_load1 rfl Try.underlying3 rfl h21 ((KX2.out.mod hm (fun h => h)).c34 HL.out)) (Mod.refl _ _) rfl
            · intro tr act w' hm hout hsz hd hG hk hub
              have h20 := hd ⟨20, .guard⟩ (by simp) rfl _ rfl
              have h22 := hd ⟨22, .data⟩ (by simp) rfl _ rfl
              refine jg_run (by rfl) rfl ((wanted_of rfl rfl (hsz 28 (by decide)) h20).trans rfl) (ex_bin rfl h22 rfl (guard_ints _ _ _ _ _ _) (run_geq_i _ _ _ Try.underlying3)) (Mod.refl _ _) ?_
              exact congrArg Value.bool E4.out
            · intro tr act w' hm hout hsz hd hG hk hub
              have h20 := hd ⟨20, .data⟩ (by simp) rfl _ rfl
              have h23 := hd ⟨23, .data⟩ (by simp) rfl _ rfl
              exact jg_run (by rfl) rfl (wanted_none rfl) (ex_pick rfl h20 h23 rfl) (Mod.refl _ _) rfl
            · intro tr act w' hm hout hsz hd hG hk hub
              have h24 := hd ⟨24, .data⟩ (by simp) rfl _ rfl
              exact jg_run (by rfl) rfl (wanted_none rfl) (ex_move rfl h24) (Mod.refl _ _) rfl
            · intro tr act w' hm hout hsz hd hG hk hub
              have h25 := hd ⟨25, .guard⟩ (by simp) rfl _ rfl
              exact jg_skip (fun _ _ _ h => h) (by rfl) rfl ((wanted_of rfl rfl (hsz 33 (by decide)) h25).trans rfl) rfl
            · intro tr act w' hm hout hsz hd hG hk hub
              have h25 := hd ⟨25, .guard⟩ (by simp) rfl _ rfl
              exact jg_skip (fun _ _ _ h => h) (by rfl) rfl ((wanted_of rfl rfl (hsz 33 (by decide)) h25).trans rfl) rfl
            · intro tr act w' hm hout hsz hd hG hk hub
              have h25 := hd ⟨25, .guard⟩ (by simp) rfl _ rfl
              exact jg_skip (fun _ _ _ h => h) (by rfl) rfl ((wanted_of rfl rfl (hsz 33 (by decide)) h25).trans rfl) rfl
            · intro tr act w' hm hout hsz hd hG hk hub
              have h25 := hd ⟨25, .data⟩ (by simp) rfl _ rfl
              have h28 := hd ⟨28, .data⟩ (by simp) rfl _ rfl
              exact jg_run (by rfl) rfl (wanted_none rfl) (ex_pick rfl h25 h28 rfl) (Mod.refl _ _) rfl
            · intro tr act w' hm hout hsz hd hG hk hub
              have h29 := hd ⟨29, .data⟩ (by simp) rfl _ rfl
              exact jg_run (by rfl) rfl (wanted_none rfl) (ex_assign rfl h29) (Mod.refl _ _) rfl
            intro vs tr w3 hl htl hm hG hV
            obtain ⟨v0, vs0, rfl, hl0⟩ := list_cons hl
            obtain ⟨v1, vs1, rfl, hl1⟩ := list_cons hl0
            obtain ⟨v2, vs2, rfl, hl2⟩ := list_cons hl1
            obtain ⟨v3, vs3, rfl, hl3⟩ := list_cons hl2
            obtain ⟨v4, vs4, rfl, hl4⟩ := list_cons hl3
            obtain ⟨v5, vs5, rfl, hl5⟩ := list_cons hl4
            obtain ⟨v6, vs6, rfl, hl6⟩ := list_cons hl5
            obtain ⟨v7, vs7, rfl, hl7⟩ := list_cons hl6
            obtain ⟨v8, vs8, rfl, hl8⟩ := list_cons hl7
            obtain ⟨v9, vs9, rfl, hl9⟩ := list_cons hl8
            obtain ⟨v10, vs10, rfl, hl10⟩ := list_cons hl9
            obtain ⟨v11, vs11, rfl, hl11⟩ := list_cons hl10
            obtain ⟨v12, vs12, rfl, hl12⟩ := list_cons hl11
            obtain ⟨v13, vs13, rfl, hl13⟩ := list_cons hl12
            obtain ⟨v14, vs14, rfl, hl14⟩ := list_cons hl13
            obtain ⟨v15, vs15, rfl, hl15⟩ := list_cons hl14
            obtain ⟨v16, vs16, rfl, hl16⟩ := list_cons hl15
            obtain ⟨v17, vs17, rfl, hl17⟩ := list_cons hl16
            obtain ⟨v18, vs18, rfl, hl18⟩ := list_cons hl17
            obtain ⟨v19, vs19, rfl, hl19⟩ := list_cons hl18
            obtain ⟨v20, vs20, rfl, hl20⟩ := list_cons hl19
            obtain ⟨v21, vs21, rfl, hl21⟩ := list_cons hl20
            obtain ⟨v22, vs22, rfl, hl22⟩ := list_cons hl21
            obtain ⟨v23, vs23, rfl, hl23⟩ := list_cons hl22
            obtain ⟨v24, vs24, rfl, hl24⟩ := list_cons hl23
            obtain ⟨v25, vs25, rfl, hl25⟩ := list_cons hl24
            obtain ⟨v26, vs26, rfl, hl26⟩ := list_cons hl25
            obtain ⟨v27, vs27, rfl, hl27⟩ := list_cons hl26
            obtain ⟨v28, vs28, rfl, hl28⟩ := list_cons hl27
            obtain ⟨v29, vs29, rfl, hl29⟩ := list_cons hl28
            obtain ⟨v30, vs30, rfl, hl30⟩ := list_cons hl29
            obtain rfl := list_nil hl30
            clear hl hl0 hl1 hl2 hl3 hl4 hl5 hl6 hl7 hl8 hl9 hl10 hl11 hl12 hl13 hl14 hl15 hl16 hl17 hl18 hl19 hl20 hl21 hl22 hl23 hl24 hl25 hl26 hl27 hl28 hl29 hl30
            obtain rfl : v30 = .bool false := hV 30 _ rfl
            have ha0 := HA0.out
            subst ha0
            clear HA0 hV hsz0 oe2 oe3 oe5
            simp only [putAll, Act.put, List.setIfInBounds_toArray, List.set_cons_zero, List.set_cons_succ]
            have KM3 := Lib.hid (KM2.out.trans hm (fun _ _ h => h))
            clear hm hG
            go_wp2
            go_ret
            exact ⟨congrArg (fun z => Ending.returned (Value.bool z)) (show false = validF k c by unfold validF; (simp only [E0.out, E1.out, E2.out, E3.out, E4.out, Bool.false_and, Bool.true_and] <;> rfl)), KM3.out⟩
        · have E3 := Lib.hid (decide_eq_false c3)
          clear c3
          go_upto_region 2 with (fail)
          generalize ha0 : Act.mk _ _ = a0
          have oe2 : a0.eval (.tmp 2) = .pointer (some ⟨w.heap.size, 0, none⟩) := by rw [← ha0]; rfl
          have oe3 : a0.eval (.tmp 3) = .pointer (some ⟨w.heap.size + 1, 0, none⟩) := by rw [← ha0]; rfl
          have oe5 : a0.eval (.tmp 5) = .pointer (some ⟨q0, 0, none⟩) := by rw [← ha0]; rfl
          have hsz0 : a0.tmps.size = 38 := by rw [← ha0]; rfl
          have HA0 := Lib.hid ha0
          clear ha0
          refine wp_region_G 38 hsz0 (by kernel_rfl) (by kernel_rfl) [8, 9, 10, 11, 12, 13, 14, 15, 16, 17, 18, 19, 20, 21, 22, 23, 24, 25, 26, 27, 28, 29, 30, 31, 32, 33, 34, 35, 36, 37, 4] (by kernel_rfl) (by decide) (fun _ => False) (fun _ _ => False) (fun _ _ h => h) Still (fun _ _ _ h => h) (fun _ _ _ hm h => hm.trans h (fun _ _ h => h.elim)) [gi (.pointer (some ⟨q0, 0, none⟩)), gi (.int .i64 c.cl), gi (.bool true), gi (.bool true), gi (.pointer (some ⟨q0, 0, none⟩)), gi (.int .i64 c.cl), gi (.pointer (some ⟨w.heap.size, 1, none⟩)), gi (.int .i64 k), gi (.bool true), gi (.bool true), gi (.bool true), gi (.pointer (some ⟨q0, 1, none⟩)), gi (.int .i64 c.sq), gi (.bool true), gi (.bool true), gi (.bool true), gi (.pointer (some ⟨q0, 1, none⟩)), gi (.int .i64 c.sq), gi (.bool false), gi (.bool false), gi (.bool false), gi (undef), gi (undef), gi (undef), gi (.bool false), gi (.bool false), gi (undef), gi (undef), gi (undef), gi (.bool false), gi (.bool false)] ⟨gi_stable, gi_stable, gi_stable, gi_stable, gi_stable, gi_stable, gi_stable, gi_stable, gi_stable, gi_stable, gi_stable, gi_stable, gi_stable, gi_stable, gi_stable, gi_stable, gi_stable, gi_stable, gi_stable, gi_stable, gi_stable, gi_stable, gi_stable, gi_stable, gi_stable, gi_stable, gi_stable, gi_stable, gi_stable, gi_stable, gi_stable, trivial⟩ [] (by kernel_rfl) (by decide) (by kernel_rfl) (fun _ _ => True) (fun _ _ _ _ _ => trivial) trivial ⟨?_, ?_, ?_, ?_, ?_, ?_, ?_, ?_, ?_, ?_, ?_, ?_, ?_, ?_, ?_, ?_, ?_, ?_, ?_, ?_, ?_, ?_, ?_, ?_, ?_, ?_, ?_, ?_, ?_, ?_, ?_, trivial⟩ ?_
          · intro tr act w' hm hout hsz hd hG hk hub
            refine jg_run (by rfl) rfl (wanted_none rfl) (ex_field rfl Try.underlying26 rfl (by kernel_rfl) ((hout 5 (by decide)).trans oe5)) (Mod.refl _ _) ?_
            rfl
          · intro tr act w' hm hout hsz hd hG hk hub
            have h0 := hd ⟨0, .data⟩ (by simp) rfl _ rfl
            exact jg_run (by rfl) rfl (wanted_none rfl) (ex_load1 rfl Try.underlying3 rfl h0 (by rw [(KQ.out.mod hm (fun h => h)).cell]; rfl)) (Mod.refl _ _) rfl
          · intro tr act w' hm hout hsz hd hG hk hub
            have h1 := hd ⟨1, .data⟩ (by simp) rfl _ rfl
            refine jg_run (by rfl) rfl (wanted_none rfl) (ex_bin rfl h1 rfl (guard_ints _ _ _ _ _ _) (run_geq_i _ _ _ Try.underlying3)) (Mod.refl _ _) ?_
            exact congrArg Value.bool E0.out
          · intro tr act w' hm hout hsz hd hG hk hub
            have h2 := hd ⟨2, .data⟩ (by simp) rfl _ rfl
            exact jg_run (by rfl) rfl (wanted_none rfl) (ex_move rfl h2) (Mod.refl _ _) rfl
          · intro tr act w' hm hout hsz hd hG hk hub
            have h3 := hd ⟨3, .guard⟩ (by simp) rfl _ rfl
            refine jg_run (by rfl) rfl ((wanted_of rfl rfl (hsz 11 (by decide)) h3).trans rfl) (ex_field rfl Try.underlying26 rfl (by kernel_rfl) ((hout 5 (by decide)).trans oe5)) (Mod.refl _ _) ?_
            rfl
          · intro tr act w' hm hout hsz hd hG hk hub
            have h3 := hd ⟨3, .guard⟩ (by simp) rfl _ rfl
            have h4 := hd ⟨4, .data⟩ (by simp) rfl _ rfl
            exact jg_run (by rfl) rfl ((wanted_of rfl rfl (hsz 11 (by decide)) h3).trans rfl) (ex_load1 rfl Try.underlying3 rfl h4 (by rw [(KQ.out.mod hm (fun h => h)).cell]; rfl)) (Mod.refl _ _) rfl
          · intro tr act w' hm hout hsz hd hG hk hub
            have h3 := hd ⟨3, .guard⟩ (by simp) rfl _ rfl
            refine jg_run (by rfl) rfl ((wanted_of rfl rfl (hsz 11 (by decide)) h3).trans rfl) (ex_field rfl Try.underlying24 rfl (by kernel_rfl) ((hout 2 (by decide)).trans oe2)) (Mod.refl _ _) ?_
            rfl
          · intro tr act w' hm hout hsz hd hG hk hub
            have h3 := hd ⟨3, .guard⟩ (by simp) rfl _ rfl
            have h6 := hd ⟨6, .data⟩ (by simp) rfl _ rfl
            exact jg_run (by rfl) rfl ((wanted_of rfl rfl (hsz 11 (by decide)) h3).trans rfl) (ex_load1 rfl Try.underlying3 rfl h6 (by rw [(KF2.out.mod hm (fun h => h)).cell]; rfl)) (Mod.refl _ _) rfl
          · intro tr act w' hm hout hsz hd hG hk hub
            have h3 := hd ⟨3, .guard⟩ (by simp) rfl _ rfl
            have h5 := hd ⟨5, .data⟩ (by simp) rfl _ rfl
            have h7 := hd ⟨7, .data⟩ (by simp) rfl _ rfl
            refine jg_run (by rfl) rfl ((wanted_of rfl rfl (hsz 11 (by decide)) h3).trans rfl) (ex_bin rfl h5 h7 (guard_ints _ _ _ _ _ _) (run_lss_i _ _ _ Try.underlying3)) (Mod.refl _ _) ?_
            exact congrArg Value.bool E1.out
          · intro tr act w' hm hout hsz hd hG hk hub
            have h3 := hd ⟨3, .data⟩ (by simp) rfl _ rfl
            have h8 := hd ⟨8, .data⟩ (by simp) rfl _ rfl
            exact jg_run (by rfl) rfl (wanted_none rfl) (ex_pick rfl h3 h8 rfl) (Mod.refl _ _) rfl
          · intro tr act w' hm hout hsz hd hG hk hub
            have h9 := hd ⟨9, .data⟩ (by simp) rfl _ rfl
            exact jg_run (by rfl) rfl (wanted_none rfl) (ex_move rfl h9) (Mod.refl _ _) rfl
          · intro tr act w' hm hout hsz hd hG hk hub
            have h10 := hd ⟨10, .guard⟩ (by simp) rfl _ rfl
            refine jg_run (by rfl) rfl ((wanted_of rfl rfl (hsz 18 (by decide)) h10).trans rfl) (ex_field rfl Try.underlying26 rfl (by kernel_rfl) ((hout 5 (by decide)).trans oe5)) (Mod.refl _ _) ?_
            rfl
          · intro tr act w' hm hout hsz hd hG hk hub
            have h10 := hd ⟨10, .guard⟩ (by simp) rfl _ rfl
            have h11 := hd ⟨11, .data⟩ (by simp) rfl _ rfl
            exact jg_run (by rfl) rfl ((wanted_of rfl rfl (hsz 18 (by decide)) h10).trans rfl) (ex_load1 rfl Try.underlying3 rfl h11 (by rw [(KQ.out.mod hm (fun h => h)).cell]; rfl)) (Mod.refl _ _) rfl
          · intro tr act w' hm hout hsz hd hG hk hub
            have h10 := hd ⟨10, .guard⟩ (by simp) rfl _ rfl
            have h12 := hd ⟨12, .data⟩ (by simp) rfl _ rfl
            refine jg_run (by rfl) rfl ((wanted_of rfl rfl (hsz 18 (by decide)) h10).trans rfl) (ex_bin rfl h12 rfl (guard_ints _ _ _ _ _ _) (run_geq_i _ _ _ Try.underlying3)) (Mod.refl _ _) ?_
            exact congrArg Value.bool E2.out
          · intro tr act w' hm hout hsz hd hG hk hub
            have h10 := hd ⟨10, .data⟩ (by simp) rfl _ rfl
            have h13 := hd ⟨13, .data⟩ (by simp) rfl _ rfl
            exact jg_run (by rfl) rfl (wanted_none rfl) (ex_pick rfl h10 h13 rfl) (Mod.refl _ _) rfl
          · intro tr act w' hm hout hsz hd hG hk hub
            have h14 := hd ⟨14, .data⟩ (by simp) rfl _ rfl
            exact jg_run (by rfl) rfl (wanted_none rfl) (ex_move rfl h14) (Mod.refl _ _) rfl
          · intro tr act w' hm hout hsz hd hG hk hub
            have h15 := hd ⟨15, .guard⟩ (by simp) rfl _ rfl
            refine jg_run (by rfl) rfl ((wanted_of rfl rfl (hsz 23 (by decide)) h15).trans rfl) (ex_field rfl Try.underlying26 rfl (by kernel_rfl) ((hout 5 (by decide)).trans oe5)) (Mod.refl _ _) ?_
            rfl
          · intro tr act w' hm hout hsz hd hG hk hub
            have h15 := hd ⟨15, .guard⟩ (by simp) rfl _ rfl
            have h16 := hd ⟨16, .data⟩ (by simp) rfl _ rfl
            exact jg_run (by rfl) rfl ((wanted_of rfl rfl (hsz 23 (by decide)) h15).trans rfl) (ex_load1 rfl Try.underlying3 rfl h16 (by rw [(KQ.out.mod hm (fun h => h)).cell]; rfl)) (Mod.refl _ _) rfl
          · intro tr act w' hm hout hsz hd hG hk hub
            have h15 := hd ⟨15, .guard⟩ (by simp) rfl _ rfl
            have h17 := hd ⟨17, .data⟩ (by simp) rfl _ rfl
            refine jg_run (by rfl) rfl ((wanted_of rfl rfl (hsz 23 (by decide)) h15).trans rfl) (ex_bin rfl h17 rfl (guard_ints _ _ _ _ _ _) (run_leq_i _ _ _ Try.underlying3)) (Mod.refl _ _) ?_
            exact congrArg Value.bool E3.out
          · intro tr act w' hm hout hsz hd hG hk hub
            have h15 := hd ⟨15, .data⟩ (by simp) rfl _ rfl
            have h18 := hd ⟨18, .data⟩ (by simp) rfl _ rfl
            exact jg_run (by rfl) rfl (wanted_none rfl) (ex_pick rfl h15 h18 rfl) (Mod.refl _ _) rfl
          · intro tr act w' hm hout hsz hd hG hk hub
            have h19 := hd ⟨19, .data⟩ (by simp) rfl _ rfl
            exact jg_run (by rfl) rfl (wanted_none rfl) (ex_move rfl h19) (Mod.refl _ _) rfl
          · intro tr act w' hm hout hsz hd hG hk hub
            have h20 := hd ⟨20, .guard⟩ (by simp) rfl _ rfl
            exact jg_skip (fun _ _ _ h => h) (by rfl) rfl ((wanted_of rfl rfl (hsz 28 (by decide)) h20).trans rfl) rfl
          · intro tr act w' hm hout hsz hd hG hk hub
            have h20 := hd ⟨20, .guard⟩ (by simp) rfl _ rfl
            exact jg_skip (fun _ _ _ h => h) (by rfl) rfl ((wanted_of rfl rfl (hsz 28 (by decide)) h20).trans rfl) rfl
          · intro tr act w' hm hout hsz hd hG hk hub
            have h20 := hd ⟨20, .guard⟩ (by simp) rfl _ rfl
            exact jg_skip (fun _ _ _ h => h) (by rfl) rfl ((wanted_of rfl rfl (hsz 28 (by decide)) h20).trans rfl) rfl
          · intro tr act w' hm hout hsz hd hG hk hub
            have h20 := hd ⟨20, .data⟩ (by simp) rfl _ rfl
            have h23 := hd ⟨23, .data⟩ (by simp) rfl _ rfl
            exact jg_run (by rfl) rfl (wanted_none rfl) (ex_pick rfl h20 h23 rfl) (Mod.refl _ _) rfl
          · intro tr act w' hm hout hsz hd hG hk hub
            have h24 := hd ⟨24, .data⟩ (by simp) rfl _ rfl
            exact jg_run (by rfl) rfl (wanted_none rfl) (ex_move rfl h24) (Mod.refl _ _) rfl
          · intro tr act w' hm hout hsz hd hG hk hub
            have h25 := hd ⟨25, .guard⟩ (by simp) rfl _ rfl
            exact jg_skip (fun _ _ _ h => h) (by rfl) rfl ((wanted_of rfl rfl (hsz 33 (by decide)) h25).trans rfl) rfl
          · intro tr act w' hm hout hsz hd hG hk hub
            have h25 := hd ⟨25, .guard⟩ (by simp) rfl _ rfl
            exact jg_skip (fun _ _ _ h => h) (by rfl) rfl ((wanted_of rfl rfl (hsz 33 (by decide)) h25).trans rfl) rfl
          · intro tr act w' hm hout hsz hd hG hk hub
            have h25 := hd ⟨25, .guard⟩ (by simp) rfl _ rfl
            exact jg_skip (fun _ _ _ h => h) (by rfl) rfl ((wanted_of rfl rfl (hsz 33 (by decide)) h25).trans rfl) rfl
          · intro tr act w' hm hout hsz hd hG hk hub
            have h25 := hd ⟨25, .data⟩ (by simp) rfl _ rfl
            have h28 := hd ⟨28, .data⟩ (by simp) rfl _ rfl
            exact jg_run (by rfl) rfl (wanted_none rfl) (ex_pick rfl h25 h28 rfl) (Mod.refl _ _) rfl
          · intro tr act w' hm hout hsz hd hG hk hub
            have h29 := hd ⟨29, .data⟩ (by simp) rfl _ rfl
            exact jg_run (by rfl) rfl (wanted_none rfl) (ex_assign rfl h29) (Mod.refl _ _) rfl
          intro vs tr w3 hl htl hm hG hV
          obtain ⟨v0, vs0, rfl, hl0⟩ := list_cons hl
          obtain ⟨v1, vs1, rfl, hl1⟩ := list_cons hl0
          obtain ⟨v2, vs2, rfl, hl2⟩ := list_cons hl1
          obtain ⟨v3, vs3, rfl, hl3⟩ := list_cons hl2
          obtain ⟨v4, vs4, rfl, hl4⟩ := list_cons hl3
          obtain ⟨v5, vs5, rfl, hl5⟩ := list_cons hl4
          obtain ⟨v6, vs6, rfl, hl6⟩ := list_cons hl5
          obtain ⟨v7, vs7, rfl, hl7⟩ := list_cons hl6
          obtain ⟨v8, vs8, rfl, hl8⟩ := list_cons hl7
          obtain ⟨v9, vs9, rfl, hl9⟩ := list_cons hl8
          obtain ⟨v10, vs10, rfl, hl10⟩ := list_cons hl9
          obtain ⟨v11, vs11, rfl, hl11⟩ := list_cons hl10
          obtain ⟨v12, vs12, rfl, hl12⟩ := list_cons hl11
          obtain ⟨v13, vs13, rfl, hl13⟩ := list_cons hl12
          obtain ⟨v14, vs14, rfl, hl14⟩ := list_cons hl13
          obtain ⟨v15, vs15, rfl, hl15⟩ := list_cons hl14
          obtain ⟨v16, vs16, rfl, hl16⟩ := list_cons hl15
          obtain ⟨v17, vs17, rfl, hl17⟩ := list_cons hl16
          obtain ⟨v18, vs18, rfl, hl18⟩ := list_cons hl17
          obtain ⟨v19, vs19, rfl, hl19⟩ := list_cons hl18
          obtain ⟨v20, vs20, rfl, hl20⟩ := list_cons hl19
          obtain ⟨v21, vs21, rfl, hl21⟩ := list_cons hl20
          obtain ⟨v22, vs22, rfl, hl22⟩ := list_cons hl21
          obtain ⟨v23, vs23, rfl, hl23⟩ := list_cons hl22
          obtain ⟨v24, vs24, rfl, hl24⟩ := list_cons hl23
          obtain ⟨v25, vs25, rfl, hl25⟩ := list_cons hl24
          obtain ⟨v26, vs26, rfl, hl26⟩ := list_cons hl25
          obtain ⟨v27, vs27, rfl, hl27⟩ := list_cons hl26
          obtain ⟨v28, vs28, rfl, hl28⟩ := list_cons hl27
          obtain ⟨v29, vs29, rfl, hl29⟩ := list_cons hl28
          obtain ⟨v30, vs30, rfl, hl30⟩ := list_cons hl29
          obtain rfl := list_nil hl30
          clear hl hl0 hl1 hl2 hl3 hl4 hl5 hl6 hl7 hl8 hl9 hl10 hl11 hl12 hl13 hl14 hl15 hl16 hl17 hl18 hl19 hl20 hl21 hl22 hl23 hl24 hl25 hl26 hl27 hl28 hl29 hl30
          obtain rfl : v30 = .bool false := hV 30 _ rfl
          have ha0 := HA0.out
          subst ha0
          clear HA0 hV hsz0 oe2 oe3 oe5
          simp only [putAll, Act.put, List.setIfInBounds_toArray, List.set_cons_zero, List.set_cons_succ]
          have KM3 := Lib.hid (KM2.out.trans hm (fun _ _ h => h))
          clear hm hG
          go_wp2
          go_ret
          exact ⟨congrArg (fun z => Ending.returned (Value.bool z)) (show false = validF k c by unfold validF; (simp only [E0.out, E1.out, E2.out, E3.out, Bool.false_and, Bool.true_and] <;> rfl)), KM3.out⟩
      · have E2 := Lib.hid (decide_eq_false c2)
        clear c2
        go_upto_region 2 with (fail)
        generalize ha0 : Act.mk _ _ = a0
        have oe2 : a0.eval (.tmp 2) = .pointer (some ⟨w.heap.size, 0, none⟩) := by rw [← ha0]; rfl
        have oe3 : a0.eval (.tmp 3) = .pointer (some ⟨w.heap.size + 1, 0, none⟩) := by rw [← ha0]; rfl
        have oe5 : a0.eval (.tmp 5) = .pointer (some ⟨q0, 0, none⟩) := by rw [← ha0]; rfl
        have hsz0 : a0.tmps.size = 38 := by rw [← ha0]; rfl
        have HA0 := Lib.hid ha0
        clear ha0
        refine wp_region_G 38 hsz0 (by kernel_rfl) (by kernel_rfl) [8, 9, 10, 11, 12, 13, 14, 15, 16, 17, 18, 19, 20, 21, 22, 23, 24, 25, 26, 27, 28, 29, 30, 31, 32, 33, 34, 35, 36, 37, 4] (by kernel_rfl) (by decide) (fun _ => False) (fun _ _ => False) (fun _ _ h => h) Still (fun _ _ _ h => h) (fun _ _ _ hm h => hm.trans h (fun _ _ h => h.elim)) [gi (.pointer (some ⟨q0, 0, none⟩)), gi (.int .i64 c.cl), gi (.bool true), gi (.bool true), gi (.pointer (some ⟨q0, 0, none⟩)), gi (.int .i64 c.cl), gi (.pointer (some ⟨w.heap.size, 1, none⟩)), gi (.int .i64 k), gi (.bool true), gi (.bool true), gi (.bool true), gi (.pointer (some ⟨q0, 1, none⟩)), gi (.int .i64 c.sq), gi (.bool false), gi (.bool false), gi (.bool false), gi (undef), gi (undef), gi (undef), gi (.bool false), gi (.bool false), gi (undef), gi (undef), gi (undef), gi (.bool false), gi (.bool false), gi (undef), gi (undef), gi (undef), gi (.bool false), gi (.bool false)] ⟨gi_stable, gi_stable, gi_stable, gi_stable, gi_stable, gi_stable, gi_stable, gi_stable, gi_stable, gi_stable, gi_stable, gi_stable, gi_stable, gi_stable, gi_stable, gi_stable, gi_stable, gi_stable, gi_stable, gi_stable, gi_stable, gi_stable, gi_stable, gi_stable, gi_stable, gi_stable, gi_stable, gi_stable, gi_stable, gi_stable, gi_stable, trivial⟩ [] (by kernel_rfl) (by decide) (by kernel_rfl) (fun _ _ => True) (fun _ _ _ _ _ => trivial) trivial ⟨?_, ?_, ?_, ?_, ?_, ?_, ?_, ?_, ?_, ?_, ?_, ?_, ?_, ?_, ?_, ?_, ?_, ?_, ?_, ?_, ?_, ?_, ?_, ?_, ?_, ?_, ?_, ?_, ?_, ?_, ?_, trivial⟩ ?_
        · intro tr act w' hm hout hsz hd hG hk hub
          refine jg_run (by rfl) rfl (wanted_none rfl) (ex_field rfl Try.underlying26 rfl (by kernel_rfl) ((hout 5 (by decide)).trans oe5)) (Mod.refl _ _) ?_
          rfl
        · intro tr act w' hm hout hsz hd hG hk hub
          have h0 := hd ⟨0, .data⟩ (by simp) rfl _ rfl
          exact jg_run (by rfl) rfl (wanted_none rfl) (ex_load1 rfl Try.underlying3 rfl h0 (by rw [(KQ.out.mod hm (fun h => h)).cell]; rfl)) (Mod.refl _ _) rfl
        · intro tr act w' hm hout hsz hd hG hk hub
          have h1 := hd ⟨1, .data⟩ (by simp) rfl _ rfl
          refine jg_run (by rfl) rfl (wanted_none rfl) (ex_bin rfl h1 rfl (guard_ints _ _ _ _ _ _) (run_geq_i _ _ _ Try.underlying3)) (Mod.refl _ _) ?_
          exact congrArg Value.bool E0.out
        · intro tr act w' hm hout hsz hd hG hk hub
          have h2 := hd ⟨2, .data⟩ (by simp) rfl _ rfl
          exact jg_run (by rfl) rfl (wanted_none rfl) (ex_move rfl h2) (Mod.refl _ _) rfl
        · intro tr act w' hm hout hsz hd hG hk hub
          have h3 := hd ⟨3, .guard⟩ (by simp) rfl _ rfl
          refine jg_run (by rfl) rfl ((wanted_of rfl rfl (hsz 11 (by decide)) h3).trans rfl) (ex_field rfl Try.underlying26 rfl (by kernel_rfl) ((hout 5 (by decide)).trans oe5)) (Mod.refl _ _) ?_
          rfl
        · intro tr act w' hm hout hsz hd hG hk hub
          have h3 := hd ⟨3, .guard⟩ (by simp) rfl _ rfl
          have h4 := hd ⟨4, .data⟩ (by simp) rfl _ rfl
          exact jg_run (by rfl) rfl ((wanted_of rfl rfl (hsz 11 (by decide)) h3).trans rfl) (ex_load1 rfl Try.underlying3 rfl h4 (by rw [(KQ.out.mod hm (fun h => h)).cell]; rfl)) (Mod.refl _ _) rfl
        · intro tr act w' hm hout hsz hd hG hk hub
          have h3 := hd ⟨3, .guard⟩ (by simp) rfl _ rfl
          refine jg_run (by rfl) rfl ((wanted_of rfl rfl (hsz 11 (by decide)) h3).trans rfl) (ex_field rfl Try.underlying24 rfl (by kernel_rfl) ((hout 2 (by decide)).trans oe2)) (Mod.refl _ _) ?_
          rfl
        · intro tr act w' hm hout hsz hd hG hk hub
          have h3 := hd ⟨3, .guard⟩ (by simp) rfl _ rfl
          have h6 := hd ⟨6, .data⟩ (by simp) rfl _ rfl
          exact jg_run (by rfl) rfl ((wanted_of rfl rfl (hsz 11 (by decide)) h3).trans rfl) (ex_load1 rfl Try.underlying3 rfl h6 (by rw [(KF2.out.mod hm (fun h => h)).cell]; rfl)) (Mod.refl _ _) rfl
        · intro tr act w' hm hout hsz hd hG hk hub
          have h3 := hd ⟨3, .guard⟩ (by simp) rfl _ rfl
          have h5 := hd ⟨5, .data⟩ (by simp) rfl _ rfl
          have h7 := hd ⟨7, .data⟩ (by simp) rfl _ rfl
          refine jg_run (by rfl) rfl ((wanted_of rfl rfl (hsz 11 (by decide)) h3).trans rfl) (ex_bin rfl h5 h7 (guard_ints _ _ _ _ _ _) (run_lss_i _ _ _ Try.underlying3)) (Mod.refl _ _) ?_
          exact congrArg Value.bool E1.out
        · intro tr act w' hm hout hsz hd hG hk hub
          have h3 := hd ⟨3, .data⟩ (by simp) rfl _ rfl
          have h8 := hd ⟨8, .data⟩ (by simp) rfl _ rfl
          exact jg_run (by rfl) rfl (wanted_none rfl) (ex_pick rfl h3 h8 rfl) (Mod.refl _ _) rfl
        · intro tr act w' hm hout hsz hd hG hk hub
          have h9 := hd ⟨9, .data⟩ (by simp) rfl _ rfl
          exact jg_run (by rfl) rfl (wanted_none rfl) (ex_move rfl h9) (Mod.refl _ _) rfl
        · intro tr act w' hm hout hsz hd hG hk hub
          have h10 := hd ⟨10, .guard⟩ (by simp) rfl _ rfl
          refine jg_run (by rfl) rfl ((wanted_of rfl rfl (hsz 18 (by decide)) h10).trans rfl) (ex_field rfl Try.underlying26 rfl (by kernel_rfl) ((hout 5 (by decide)).trans oe5)) (Mod.refl _ _) ?_
          rfl
        · intro tr act w' hm hout hsz hd hG hk hub
          have h10 := hd ⟨10, .guard⟩ (by simp) rfl _ rfl
          have h11 := hd ⟨11, .data⟩ (by simp) rfl _ rfl
          exact jg_run (by rfl) rfl ((wanted_of rfl rfl (hsz 18 (by decide)) h10).trans rfl) (ex_load1 rfl Try.underlying3 rfl h11 (by rw [(KQ.out.mod hm (fun h => h)).cell]; rfl)) (Mod.refl _ _) rfl
        · intro tr act w' hm hout hsz hd hG hk hub
          have h10 := hd ⟨10, .guard⟩ (by simp) rfl _ rfl
          have h12 := hd ⟨12, .data⟩ (by simp) rfl _ rfl
          refine jg_run (by rfl) rfl ((wanted_of rfl rfl (hsz 18 (by decide)) h10).trans rfl) (ex_bin rfl h12 rfl (guard_ints _ _ _ _ _ _) (run_geq_i _ _ _ Try.underlying3)) (Mod.refl _ _) ?_
          exact congrArg Value.bool E2.out
        · intro tr act w' hm hout hsz hd hG hk hub
          have h10 := hd ⟨10, .data⟩ (by simp) rfl _ rfl
          have h13 := hd ⟨13, .data⟩ (by simp) rfl _ rfl
          exact jg_run (by rfl) rfl (wanted_none rfl) (ex_pick rfl h10 h13 rfl) (Mod.refl _ _) rfl
        · intro tr act w' hm hout hsz hd hG hk hub
          have h14 := hd ⟨14, .data⟩ (by simp) rfl _ rfl
          exact jg_run (by rfl) rfl (wanted_none rfl) (ex_move rfl h14) (Mod.refl _ _) rfl
        · intro tr act w' hm hout hsz hd hG hk hub
          have h15 := hd ⟨15, .guard⟩ (by simp) rfl _ rfl
          exact jg_skip (fun _ _ _ h => h) (by rfl) rfl ((wanted_of rfl rfl (hsz 23 (by decide)) h15).trans rfl) rfl
        · intro tr act w' hm hout hsz hd hG hk hub
          have h15 := hd ⟨15, .guard⟩ (by simp) rfl _ rfl
          exact jg_skip (fun _ _ _ h => h) (by rfl) rfl ((wanted_of rfl rfl (hsz 23 (by decide)) h15).trans rfl) rfl
        · intro tr act w' hm hout hsz hd hG hk hub
          have h15 := hd ⟨15, .guard⟩ (by simp) rfl _ rfl
          exact jg_skip (fun _ _ _ h => h) (by rfl) rfl ((wanted_of rfl rfl (hsz 23 (by decide)) h15).trans rfl) rfl
        · intro tr act w' hm hout hsz hd hG hk hub
          have h15 := hd ⟨15, .data⟩ (by simp) rfl _ rfl
          have h18 := hd ⟨18, .data⟩ (by simp) rfl _ rfl
          exact jg_run (by rfl) rfl (wanted_none rfl) (ex_pick rfl h15 h18 rfl) (Mod.refl _ _) rfl
        · intro tr act w' hm hout hsz hd hG hk hub
          have h19 := hd ⟨19, .data⟩ (by simp) rfl _ rfl
          exact jg_run (by rfl) rfl (wanted_none rfl) (ex_move rfl h19) (Mod.refl _ _) rfl
        · intro tr act w' hm hout hsz hd hG hk hub
          have h20 := hd ⟨20, .guard⟩ (by simp) rfl _ rfl
          exact jg_skip (fun _ _ _ h => h) (by rfl) rfl ((wanted_of rfl rfl (hsz 28 (by decide)) h20).trans rfl) rfl
        · intro tr act w' hm hout hsz hd hG hk hub
          have h20 := hd ⟨20, .guard⟩ (by simp) rfl _ rfl
          exact jg_skip (fun _ _ _ h => h) (by rfl) rfl ((wanted_of rfl rfl (hsz 28 (by decide)) h20).trans rfl) rfl
        · intro tr act w' hm hout hsz hd hG hk hub
          have h20 := hd ⟨20, .guard⟩ (by simp) rfl _ rfl
          exact jg_skip (fun _ _ _ h => h) (by rfl) rfl ((wanted_of rfl rfl (hsz 28 (by decide)) h20).trans rfl) rfl
        · intro tr act w' hm hout hsz hd hG hk hub
          have h20 := hd ⟨20, .data⟩ (by simp) rfl _ rfl
          have h23 := hd ⟨23, .data⟩ (by simp) rfl _ rfl
          exact jg_run (by rfl) rfl (wanted_none rfl) (ex_pick rfl h20 h23 rfl) (Mod.refl _ _) rfl
        · intro tr act w' hm hout hsz hd hG hk hub
          have h24 := hd ⟨24, .data⟩ (by simp) rfl _ rfl
          exact jg_run (by rfl) rfl (wanted_none rfl) (ex_move rfl h24) (Mod.refl _ _) rfl
        · intro tr act w' hm hout hsz hd hG hk hub
          have h25 := hd ⟨25, .guard⟩ (by simp) rfl _ rfl
          exact jg_skip (fun _ _ _ h => h) (by rfl) rfl ((wanted_of rfl rfl (hsz 33 (by decide)) h25).trans rfl) rfl
        · intro tr act w' hm hout hsz hd hG hk hub
          have h25 := hd ⟨25, .guard⟩ (by simp) rfl _ rfl
          exact jg_skip (fun _ _ _ h => h) (by rfl) rfl ((wanted_of rfl rfl (hsz 33 (by decide)) h25).trans rfl) rfl
        · intro tr act w' hm hout hsz hd hG hk hub
          have h25 := hd ⟨25, .guard⟩ (by simp) rfl _ rfl
          exact jg_skip (fun _ _ _ h => h) (by rfl) rfl ((wanted_of rfl rfl (hsz 33 (by decide)) h25).trans rfl) rfl
        · intro tr act w' hm hout hsz hd hG hk hub
          have h25 := hd ⟨25, .data⟩ (by simp) rfl _ rfl
          have h28 := hd ⟨28, .data⟩ (by simp) rfl _ rfl
          exact jg_run (by rfl) rfl (wanted_none rfl) (ex_pick rfl h25 h28 rfl) (Mod.refl _ _) rfl
        · intro tr act w' hm hout hsz hd hG hk hub
          have h29 := hd ⟨29, .data⟩ (by simp) rfl _ rfl
          exact jg_run (by rfl) rfl (wanted_none rfl) (ex_assign rfl h29) (Mod.refl _ _) rfl
        intro vs tr w3 hl htl hm hG hV
        obtain ⟨v0, vs0, rfl, hl0⟩ := list_cons hl
        obtain ⟨v1, vs1, rfl, hl1⟩ := list_cons hl0
        obtain ⟨v2, vs2, rfl, hl2⟩ := list_cons hl1
        obtain ⟨v3, vs3, rfl, hl3⟩ := list_cons hl2
        obtain ⟨v4, vs4, rfl, hl4⟩ := list_cons hl3
        obtain ⟨v5, vs5, rfl, hl5⟩ := list_cons hl4
        obtain ⟨v6, vs6, rfl, hl6⟩ := list_cons hl5
        obtain ⟨v7, vs7, rfl, hl7⟩ := list_cons hl6
        obtain ⟨v8, vs8, rfl, hl8⟩ := list_cons hl7
        obtain ⟨v9, vs9, rfl, hl9⟩ := list_cons hl8
        obtain ⟨v10, vs10, rfl, hl10⟩ := list_cons hl9
        obtain ⟨v11, vs11, rfl, hl11⟩ := list_cons hl10
        obtain ⟨v12, vs12, rfl, hl12⟩ := list_cons hl11
        obtain ⟨v13, vs13, rfl, hl13⟩ := list_cons hl12
        obtain ⟨v14, vs14, rfl, hl14⟩ := list_cons hl13
        obtain ⟨v15, vs15, rfl, hl15⟩ := list_cons hl14
        obtain ⟨v16, vs16, rfl, hl16⟩ := list_cons hl15
        obtain ⟨v17, vs17, rfl, hl17⟩ := list_cons hl16
        obtain ⟨v18, vs18, rfl, hl18⟩ := list_cons hl17
        obtain ⟨v19, vs19, rfl, hl19⟩ := list_cons hl18
        obtain ⟨v20, vs20, rfl, hl20⟩ := list_cons hl19
        obtain ⟨v21, vs21, rfl, hl21⟩ := list_cons hl20
        obtain ⟨v22, vs22, rfl, hl22⟩ := list_cons hl21
        obtain ⟨v23, vs23, rfl, hl23⟩ := list_cons hl22
        obtain ⟨v24, vs24, rfl, hl24⟩ := list_cons hl23
        obtain ⟨v25, vs25, rfl, hl25⟩ := list_cons hl24
        obtain ⟨v26, vs26, rfl, hl26⟩ := list_cons hl25
        obtain ⟨v27, vs27, rfl, hl27⟩ := list_cons hl26
        obtain ⟨v28, vs28, rfl, hl28⟩ := list_cons hl27
        obtain ⟨v29, vs29, rfl, hl29⟩ := list_cons hl28
        obtain ⟨v30, vs30, rfl, hl30⟩ := list_cons hl29
        obtain rfl := list_nil hl30
        clear hl hl0 hl1 hl2 hl3 hl4 hl5 hl6 hl7 hl8 hl9 hl10 hl11 hl12 hl13 hl14 hl15 hl16 hl17 hl18 hl19 hl20 hl21 hl22 hl23 hl24 hl25 hl26 hl27 hl28 hl29 hl30
        obtain rfl : v30 = .bool false := hV 30 _ rfl
        have ha0 := HA0.out
        subst ha0
        clear HA0 hV hsz0 oe2 oe3 oe5
        simp only [putAll, Act.put, List.setIfInBounds_toArray, List.set_cons_zero, List.set_cons_succ]
        have KM3 := Lib.hid (KM2.out.trans hm (fun _ _ h => h))
        clear hm hG
        go_wp2
        go_ret
        exact ⟨congrArg (fun z => Ending.returned (Value.bool z)) (show false = validF k c by unfold validF; (simp only [E0.out, E1.out, E2.out, Bool.false_and, Bool.true_and] <;> rfl)), KM3.out⟩
    · have E1 := Lib.hid (decide_eq_false c1)
      clear c1
      go_upto_region 2 with (fail)
      generalize ha0 : Act.mk _ _ = a0
      have oe2 : a0.eval (.tmp 2) = .pointer (some ⟨w.heap.size, 0, none⟩) := by rw [← ha0]; rfl
      have oe3 : a0.eval (.tmp 3) = .pointer (some ⟨w.heap.size + 1, 0, none⟩) := by rw [← ha0]; rfl
      have oe5 : a0.eval (.tmp 5) = .pointer (some ⟨q0, 0, none⟩) := by rw [← ha0]; rfl
      have hsz0 : a0.tmps.size = 38 := by rw [← ha0]; rfl
      have HA0 := Lib.hid ha0
      clear ha0
      refine wp_region_G 38 hsz0 (by kernel_rfl) (by kernel_rfl) [8, 9, 10, 11, 12, 13, 14, 15, 16, 17, 18, 19, 20, 21, 22, 23, 24, 25, 26, 27, 28, 29, 30, 31, 32, 33, 34, 35, 36, 37, 4] (by kernel_rfl) (by decide) (fun _ => False) (fun _ _ => False) (fun _ _ h => h) Still (fun _ _ _ h => h) (fun _ _ _ hm h => hm.trans h (fun _ _ h => h.elim)) [gi (.pointer (some ⟨q0, 0, none⟩)), gi (.int .i64 c.cl), gi (.bool true), gi (.bool true), gi (.pointer (some ⟨q0, 0, none⟩)), gi (.int .i64 c.cl), gi (.pointer (some ⟨w.heap.size, 1, none⟩)), gi (.int .i64 k), gi (.bool false), gi (.bool false), gi (.bool false), gi (undef), gi (undef), gi (undef), gi (.bool false), gi (.bool false), gi (undef), gi (undef), gi (undef), gi (.bool false), gi (.bool false), gi (undef), gi (undef), gi (undef), gi (.bool false), gi (.bool false), gi (undef), gi (undef), gi (undef), gi (.bool false), gi (.bool false)] ⟨gi_stable, gi_stable, gi_stable, gi_stable, gi_stable, gi_stable, gi_stable, gi_stable, gi_stable, gi_stable, gi_stable, gi_stable, gi_stable, gi_stable, gi_stable, gi_stable, gi_stable, gi_stable, gi_stable, gi_stable, gi_stable, gi_stable, gi_stable, gi_stable, gi_stable, gi_stable, gi_stable, gi_stable, gi_stable, gi_stable, gi_stable, trivial⟩ [] (by kernel_rfl) (by decide) (by kernel_rfl) (fun _ _ => True) (fun _ _ _ _ _ => trivial) trivial ⟨?_, ?_, ?_, ?_, ?_, ?_, ?_, ?_, ?_, ?_, ?_, ?_, ?_, ?_, ?_, ?_, ?_, ?_, ?_, ?_, ?_, ?_, ?_, ?_, ?_, ?_, ?_, ?_, ?_, ?_, ?_, trivial⟩ ?_
      · intro tr act w' hm hout hsz hd hG hk hub
        refine jg_run (by rfl) rfl (wanted_none rfl) (ex_field rfl Try.underlying26 rfl (by kernel_rfl) ((hout 5 (by decide)).trans oe5)) (Mod.refl _ _) ?_
        rfl
      · intro tr act w' hm hout hsz hd hG hk hub
        have h0 := hd ⟨0, .data⟩ (by simp) rfl _ rfl
        exact jg_run (by rfl) rfl (wanted_none rfl) (ex_load1 rfl Try.underlying3 rfl h0 (by rw [(KQ.out.mod hm (fun h => h)).cell]; rfl)) (Mod.refl _ _) rfl
      · intro tr act w' hm hout hsz hd hG hk hub
        have h1 := hd ⟨1, .data⟩ (by simp) rfl _ rfl
        refine jg_run (by rfl) rfl (wanted_none rfl) (ex_bin rfl h1 rfl (guard_ints _ _ _ _ _ _) (run_geq_i _ _ _ Try.underlying3)) (Mod.refl _ _) ?_
        exact congrArg Value.bool E0.out
      · intro tr act w' hm hout hsz hd hG hk hub
        have h2 := hd ⟨2, .data⟩ (by simp) rfl _ rfl
        exact jg_run (by rfl) rfl (wanted_none rfl) (ex_move rfl h2) (Mod.refl _ _) rfl
      · intro tr act w' hm hout hsz hd hG hk hub
        have h3 := hd ⟨3, .guard⟩ (by simp) rfl _ rfl
        refine jg_run (by rfl) rfl ((wanted_of rfl rfl (hsz 11 (by decide)) h3).trans rfl) (ex_field rfl Try.underlying26 rfl (by kernel_rfl) ((hout 5 (by decide)).trans oe5)) (Mod.refl _ _) ?_
        rfl
      · intro tr act w' hm hout hsz hd hG hk hub
        have h3 := hd ⟨3, .guard⟩ (by simp) rfl _ rfl
        have h4 := hd ⟨4, .data⟩ (by simp) rfl _ rfl
        exact jg_run (by rfl) rfl ((wanted_of rfl rfl (hsz 11 (by decide)) h3).trans rfl) (ex_load1 rfl Try.underlying3 rfl h4 (by rw [(KQ.out.mod hm (fun h => h)).cell]; rfl)) (Mod.refl _ _) rfl
      · intro tr act w' hm hout hsz hd hG hk hub
        have h3 := hd ⟨3, .guard⟩ (by simp) rfl _ rfl
        refine jg_run (by rfl) rfl ((wanted_of rfl rfl (hsz 11 (by decide)) h3).trans rfl) (ex_field rfl Try.underlying24 rfl (by kernel_rfl) ((hout 2 (by decide)).trans oe2)) (Mod.refl _ _) ?_
        rfl
      · intro tr act w' hm hout hsz hd hG hk hub
        have h3 := hd ⟨3, .guard⟩ (by simp) rfl _ rfl
        have h6 := hd ⟨6, .data⟩ (by simp) rfl _ rfl
        exact jg_run (by rfl) rfl ((wanted_of rfl rfl (hsz 11 (by decide)) h3).trans rfl) (ex_load1 rfl Try.underlying3 rfl h6 (by rw [(KF2.out.mod hm (fun h => h)).cell]; rfl)) (Mod.refl _ _) rfl
      · intro tr act w' hm hout hsz hd hG hk hub
        have h3 := hd ⟨3, .guard⟩ (by simp) rfl _ rfl
        have h5 := hd ⟨5, .data⟩ (by simp) rfl _ rfl
        have h7 := hd ⟨7, .data⟩ (by simp) rfl _ rfl
        refine jg_run (by rfl) rfl ((wanted_of rfl rfl (hsz 11 (by decide)) h3).trans rfl) (ex_bin rfl h5 h7 (guard_ints _ _ _ _ _ _) (run_lss_i _ _ _ Try.underlying3)) (Mod.refl _ _) ?_
        exact congrArg Value.bool E1.out
      · intro tr act w' hm hout hsz hd hG hk hub
        have h3 := hd ⟨3, .data⟩ (by simp) rfl _ rfl
        have h8 := hd ⟨8, .data⟩ (by simp) rfl _ rfl
        exact jg_run (by rfl) rfl (wanted_none rfl) (ex_pick rfl h3 h8 rfl) (Mod.refl _ _) rfl
      · intro tr act w' hm hout hsz hd hG hk hub
        have h9 := hd ⟨9, .data⟩ (by simp) rfl _ rfl
        exact jg_run (by rfl) rfl (wanted_none rfl) (ex_move rfl h9) (Mod.refl _ _) rfl
      · intro tr act w' hm hout hsz hd hG hk hub
        have h10 := hd ⟨10, .guard⟩ (by simp) rfl _ rfl
        exact jg_skip (fun _ _ _ h => h) (by rfl) rfl ((wanted_of rfl rfl (hsz 18 (by decide)) h10).trans rfl) rfl
      · intro tr act w' hm hout hsz hd hG hk hub
        have h10 := hd ⟨10, .guard⟩ (by simp) rfl _ rfl
        exact jg_skip (fun _ _ _ h => h) (by rfl) rfl ((wanted_of rfl rfl (hsz 18 (by decide)) h10).trans rfl) rfl
      · intro tr act w' hm hout hsz hd hG hk hub
        have h10 := hd ⟨10, .guard⟩ (by simp) rfl _ rfl
        exact jg_skip (fun _ _ _ h => h) (by rfl) rfl ((wanted_of rfl rfl (hsz 18 (by decide)) h10).trans rfl) rfl
      · intro tr act w' hm hout hsz hd hG hk hub
        have h10 := hd ⟨10, .data⟩ (by simp) rfl _ rfl
        have h13 := hd ⟨13, .data⟩ (by simp) rfl _ rfl
        exact jg_run (by rfl) rfl (wanted_none rfl) (ex_pick rfl h10 h13 rfl) (Mod.refl _ _) rfl
      · intro tr act w' hm hout hsz hd hG hk hub
        have h14 := hd ⟨14, .data⟩ (by simp) rfl _ rfl
        exact jg_run (by rfl) rfl (wanted_none rfl) (ex_move rfl h14) (Mod.refl _ _) rfl
      · intro tr act w' hm hout hsz hd hG hk hub
        have h15 := hd ⟨15, .guard⟩ (by simp) rfl _ rfl
        exact jg_skip (fun _ _ _ h => h) (by rfl) rfl ((wanted_of rfl rfl (hsz 23 (by decide)) h15).trans rfl) rfl
      · intro tr act w' hm hout hsz hd hG hk hub
        have h15 := hd ⟨15, .guard⟩ (by simp) rfl _ rfl
        exact jg_skip (fun _ _ _ h => h) (by rfl) rfl ((wanted_of rfl rfl (hsz 23 (by decide)) h15).trans rfl) rfl
      · intro tr act w' hm hout hsz hd hG hk hub
        have h15 := hd ⟨15, .guard⟩ (by simp) rfl _ rfl
        exact jg_skip (fun _ _ _ h => h) (by rfl) rfl ((wanted_of rfl rfl (hsz 23 (by decide)) h15).trans rfl) rfl
      · intro tr act w' hm hout hsz hd hG hk hub
        have h15 := hd ⟨15, .data⟩ (by simp) rfl _ rfl
        have h18 := hd ⟨18, .data⟩ (by simp) rfl _ rfl
        exact jg_run (by rfl) rfl (wanted_none rfl) (ex_pick rfl h15 h18 rfl) (Mod.refl _ _) rfl
      · intro tr act w' hm hout hsz hd hG hk hub
        have h19 := hd ⟨19, .data⟩ (by simp) rfl _ rfl
        exact jg_run (by rfl) rfl (wanted_none rfl) (ex_move rfl h19) (Mod.refl _ _) rfl
      · intro tr act w' hm hout hsz hd hG hk hub
        have h20 := hd ⟨20, .guard⟩ (by simp) rfl _ rfl
        exact jg_skip (fun _ _ _ h => h) (by rfl) rfl ((wanted_of rfl rfl (hsz 28 (by decide)) h20).trans rfl) rfl
      · intro tr act w' hm hout hsz hd hG hk hub
        have h20 := hd ⟨20, .guard⟩ (by simp) rfl _ rfl
        exact jg_skip (fun _ _ _ h => h) (by rfl) rfl ((wanted_of rfl rfl (hsz 28 (by decide)) h20).trans rfl) rfl
      · intro tr act w' hm hout hsz hd hG hk hub
        have h20 := hd ⟨20, .guard⟩ (by simp) rfl _ rfl
        exact jg_skip (fun _ _ _ h => h) (by rfl) rfl ((wanted_of rfl rfl (hsz 28 (by decide)) h20).trans rfl) rfl
      · intro tr act w' hm hout hsz hd hG hk hub
        have h20 := hd ⟨20, .data⟩ (by simp) rfl _ rfl
        have h23 := hd ⟨23, .data⟩ (by simp) rfl _ rfl
        exact jg_run (by rfl) rfl (wanted_none rfl) (ex_pick rfl h20 h23 rfl) (Mod.refl _ _) rfl
      · intro tr act w' hm hout hsz hd hG hk hub
        have h24 := hd ⟨24, .data⟩ (by simp) rfl _ rfl
        exact jg_run (by rfl) rfl (wanted_none rfl) (ex_move rfl h24) (Mod.refl _ _) rfl
      · intro tr act w' hm hout hsz hd hG hk hub
        have h25 := hd ⟨25, .guard⟩ (by simp) rfl _ rfl
        exact jg_skip (fun _ _ _ h => h) (by rfl) rfl ((wanted_of rfl rfl (hsz 33 (by decide)) h25).trans rfl) rfl
      · intro tr act w' hm hout hsz hd hG hk hub
        have h25 := hd ⟨25, .guard⟩ (by simp) rfl _ rfl
        exact jg_skip (fun _ _ _ h => h) (by rfl) rfl ((wanted_of rfl rfl (hsz 33 (by decide)) h25).trans rfl) rfl
      · intro tr act w' hm hout hsz hd hG hk hub
        have h25 := hd ⟨25, .guard⟩ (by simp) rfl _ rfl
        exact jg_skip (fun _ _ _ h => h) (by rfl) rfl ((wanted_of rfl rfl (hsz 33 (by decide)) h25).trans rfl) rfl
      · intro tr act w' hm hout hsz hd hG hk hub
        have h25 := hd ⟨25, .data⟩ (by simp) rfl _ rfl
        have h28 := hd ⟨28, .data⟩ (by simp) rfl _ rfl
        exact jg_run (by rfl) rfl (wanted_none rfl) (ex_pick rfl h25 h28 rfl) (Mod.refl _ _) rfl
      · intro tr act w' hm hout hsz hd hG hk hub
        have h29 := hd ⟨29, .data⟩ (by simp) rfl _ rfl
        exact jg_run (by rfl) rfl (wanted_none rfl) (ex_assign rfl h29) (Mod.refl _ _) rfl
      intro vs tr w3 hl htl hm hG hV
      obtain ⟨v0, vs0, rfl, hl0⟩ := list_cons hl
      obtain ⟨v1, vs1, rfl, hl1⟩ := list_cons hl0
      obtain ⟨v2, vs2, rfl, hl2⟩ := list_cons hl1
      obtain ⟨v3, vs3, rfl, hl3⟩ := list_cons hl2
      obtain ⟨v4, vs4, rfl, hl4⟩ := list_cons hl3
      obtain ⟨v5, vs5, rfl, hl5⟩ := list_cons hl4
      obtain ⟨v6, vs6, rfl, hl6⟩ := list_cons hl5
      obtain ⟨v7, vs7, rfl, hl7⟩ := list_cons hl6
      obtain ⟨v8, vs8, rfl, hl8⟩ := list_cons hl7
      obtain ⟨v9, vs9, rfl, hl9⟩ := list_cons hl8
      obtain ⟨v10, vs10, rfl, hl10⟩ := list_cons hl9
      obtain ⟨v11, vs11, rfl, hl11⟩ := list_cons hl10
      obtain ⟨v12, vs12, rfl, hl12⟩ := list_cons hl11
      obtain ⟨v13, vs13, rfl, hl13⟩ := list_cons hl12
      obtain ⟨v14, vs14, rfl, hl14⟩ := list_cons hl13
      obtain ⟨v15, vs15, rfl, hl15⟩ := list_cons hl14
      obtain ⟨v16, vs16, rfl, hl16⟩ := list_cons hl15
      obtain ⟨v17, vs17, rfl, hl17⟩ := list_cons hl16
      obtain ⟨v18, vs18, rfl, hl18⟩ := list_cons hl17
      obtain ⟨v19, vs19, rfl, hl19⟩ := list_cons hl18
      obtain ⟨v20, vs20, rfl, hl20⟩ := list_cons hl19
      obtain ⟨v21, vs21, rfl, hl21⟩ := list_cons hl20
      obtain ⟨v22, vs22, rfl, hl22⟩ := list_cons hl21
      obtain ⟨v23, vs23, rfl, hl23⟩ := list_cons hl22
      obtain ⟨v24, vs24, rfl, hl24⟩ := list_cons hl23
      obtain ⟨v25, vs25, rfl, hl25⟩ := list_cons hl24
      obtain ⟨v26, vs26, rfl, hl26⟩ := list_cons hl25
      obtain ⟨v27, vs27, rfl, hl27⟩ := list_cons hl26
      obtain ⟨v28, vs28, rfl, hl28⟩ := list_cons hl27
      obtain ⟨v29, vs29, rfl, hl29⟩ := list_cons hl28
      obtain ⟨v30, vs30, rfl, hl30⟩ := list_cons hl29
      obtain rfl := list_nil hl30
      clear hl hl0 hl1 hl2 hl3 hl4 hl5 hl6 hl7 hl8 hl9 hl10 hl11 hl12 hl13 hl14 hl15 hl16 hl17 hl18 hl19 hl20 hl21 hl22 hl23 hl24 hl25 hl26 hl27 hl28 hl29 hl30
      obtain rfl : v30 = .bool false := hV 30 _ rfl
      have ha0 := HA0.out
      subst ha0
      clear HA0 hV hsz0 oe2 oe3 oe5
      simp only [putAll, Act.put, List.setIfInBounds_toArray, List.set_cons_zero, List.set_cons_succ]
      have KM3 := Lib.hid (KM2.out.trans hm (fun _ _ h => h))
      clear hm hG
      go_wp2
      go_ret
      exact ⟨congrArg (fun z => Ending.returned (Value.bool z)) (show false = validF k c by unfold validF; (simp only [E0.out, E1.out, Bool.false_and, Bool.true_and] <;> rfl)), KM3.out⟩
  · have E0 := Lib.hid (decide_eq_false c0)
    clear c0
    go_upto_region 2 with (fail)
    generalize ha0 : Act.mk _ _ = a0
    have oe2 : a0.eval (.tmp 2) = .pointer (some ⟨w.heap.size, 0, none⟩) := by rw [← ha0]; rfl
    have oe3 : a0.eval (.tmp 3) = .pointer (some ⟨w.heap.size + 1, 0, none⟩) := by rw [← ha0]; rfl
    have oe5 : a0.eval (.tmp 5) = .pointer (some ⟨q0, 0, none⟩) := by rw [← ha0]; rfl
    have hsz0 : a0.tmps.size = 38 := by rw [← ha0]; rfl
    have HA0 := Lib.hid ha0
    clear ha0
    refine wp_region_G 38 hsz0 (by kernel_rfl) (by kernel_rfl) [8, 9, 10, 11, 12, 13, 14, 15, 16, 17, 18, 19, 20, 21, 22, 23, 24, 25, 26, 27, 28, 29, 30, 31, 32, 33, 34, 35, 36, 37, 4] (by kernel_rfl) (by decide) (fun _ => False) (fun _ _ => False) (fun _ _ h => h) Still (fun _ _ _ h => h) (fun _ _ _ hm h => hm.trans h (fun _ _ h => h.elim)) [gi (.pointer (some ⟨q0, 0, none⟩)), gi (.int .i64 c.cl), gi (.bool false), gi (.bool false), gi (undef), gi (undef), gi (undef), gi (undef), gi (undef), gi (.bool false), gi (.bool false), gi (undef), gi (undef), gi (undef), gi (.bool false), gi (.bool false), gi (undef), gi (undef), gi (undef), gi (.bool false), gi (.bool false), gi (undef), gi (undef), gi (undef), gi (.bool false), gi (.bool false), gi (undef), gi (undef), gi (undef), gi (.bool false), gi (.bool false)] ⟨gi_stable, gi_stable, gi_stable, gi_stable, gi_stable, gi_stable, gi_stable, gi_stable, gi_stable, gi_stable, gi_stable, gi_stable, gi_stable, gi_stable, gi_stable, gi_stable, gi_stable, gi_stable, gi_stable, gi_stable, gi_stable, gi_stable, gi_stable, gi_stable, gi_stable, gi_stable, gi_stable, gi_stable, gi_stable, gi_stable, gi_stable, trivial⟩ [] (by kernel_rfl) (by decide) (by kernel_rfl) (fun _ _ => True) (fun _ _ _ _ _ => trivial) trivial ⟨?_, ?_, ?_, ?_, ?_, ?_, ?_, ?_, ?_, ?_, ?_, ?_, ?_, ?_, ?_, ?_, ?_, ?_, ?_, ?_, ?_, ?_, ?_, ?_, ?_, ?_, ?_, ?_, ?_, ?_, ?_, trivial⟩ ?_
    · intro tr act w' hm hout hsz hd hG hk hub
      refine jg_run (by rfl) rfl (wanted_none rfl) (ex_field rfl Try.underlying26 rfl (by kernel_rfl) ((hout 5 (by decide)).trans oe5)) (Mod.refl _ _) ?_
      rfl
    · intro tr act w' hm hout hsz hd hG hk hub
      have h0 := hd ⟨0, .data⟩ (by simp) rfl _ rfl
      exact jg_run (by rfl) rfl (wanted_none rfl) (ex_load1 rfl Try.underlying3 rfl h0 (by rw [(KQ.out.mod hm (fun h => h)).cell]; rfl)) (Mod.refl _ _) rfl
    · intro tr act w' hm hout hsz hd hG hk hub
      have h1 := hd ⟨1, .data⟩ (by simp) rfl _ rfl
      refine jg_run (by rfl) rfl (wanted_none rfl) (ex_bin rfl h1 rfl (guard_ints _ _ _ _ _ _) (run_geq_i _ _ _ Try.underlying3)) (Mod.refl _ _) ?_
      exact congrArg Value.bool E0.out
    · intro tr act w' hm hout hsz hd hG hk hub
      have h2 := hd ⟨2, .data⟩ (by simp) rfl _ rfl
      exact jg_run (by rfl) rfl (wanted_none rfl) (ex_move rfl h2) (Mod.refl _ _) rfl
    · intro tr act w' hm hout hsz hd hG hk hub
      have h3 := hd ⟨3, .guard⟩ (by simp) rfl _ rfl
      exact jg_skip (fun _ _ _ h => h) (by rfl) rfl ((wanted_of rfl rfl (hsz 11 (by decide)) h3).trans rfl) rfl
    · intro tr act w' hm hout hsz hd hG hk hub
      have h3 := hd ⟨3, .guard⟩ (by simp) rfl _ rfl
      exact jg_skip (fun _ _ _ h => h) (by rfl) rfl ((wanted_of rfl rfl (hsz 11 (by decide)) h3).trans rfl) rfl
    · intro tr act w' hm hout hsz hd hG hk hub
      have h3 := hd ⟨3, .guard⟩ (by simp) rfl _ rfl
      exact jg_skip (fun _ _ _ h => h) (by rfl) rfl ((wanted_of rfl rfl (hsz 11 (by decide)) h3).trans rfl) rfl
    · intro tr act w' hm hout hsz hd hG hk hub
      have h3 := hd ⟨3, .guard⟩ (by simp) rfl _ rfl
      exact jg_skip (fun _ _ _ h => h) (by rfl) rfl ((wanted_of rfl rfl (hsz 11 (by decide)) h3).trans rfl) rfl
    · intro tr act w' hm hout hsz hd hG hk hub
      have h3 := hd ⟨3, .guard⟩ (by simp) rfl _ rfl
      exact jg_skip (fun _ _ _ h => h) (by rfl) rfl ((wanted_of rfl rfl (hsz 11 (by decide)) h3).trans rfl) rfl
    · intro tr act w' hm hout hsz hd hG hk hub
      have h3 := hd ⟨3, .data⟩ (by simp) rfl _ rfl
      have h8 := hd ⟨8, .data⟩ (by simp) rfl _ rfl
      exact jg_run (by rfl) rfl (wanted_none rfl) (ex_pick rfl h3 h8 rfl) (Mod.refl _ _) rfl
    · intro tr act w' hm hout hsz hd hG hk hub
      have h9 := hd ⟨9, .data⟩ (by simp) rfl _ rfl
      exact jg_run (by rfl) rfl (wanted_none rfl) (ex_move rfl h9) (Mod.refl _ _) rfl
    · intro tr act w' hm hout hsz hd hG hk hub
      have h10 := hd ⟨10, .guard⟩ (by simp) rfl _ rfl
      exact jg_skip (fun _ _ _ h => h) (by rfl) rfl ((wanted_of rfl rfl (hsz 18 (by decide)) h10).trans rfl) rfl
    · intro tr act w' hm hout hsz hd hG hk hub
      have h10 := hd ⟨10, .guard⟩ (by simp) rfl _ rfl
      exact jg_skip (fun _ _ _ h => h) (by rfl) rfl ((wanted_of rfl rfl (hsz 18 (by decide)) h10).trans rfl) rfl
    · intro tr act w' hm hout hsz hd hG hk hub
      have h10 := hd ⟨10, .guard⟩ (by simp) rfl _ rfl
      exact jg_skip (fun _ _ _ h => h) (by rfl) rfl ((wanted_of rfl rfl (hsz 18 (by decide)) h10).trans rfl) rfl
    · intro tr act w' hm hout hsz hd hG hk hub
      have h10 := hd ⟨10, .data⟩ (by simp) rfl _ rfl
      have h13 := hd ⟨13, .data⟩ (by simp) rfl _ rfl
      exact jg_run (by rfl) rfl (wanted_none rfl) (ex_pick rfl h10 h13 rfl) (Mod.refl _ _) rfl
    · intro tr act w' hm hout hsz hd hG hk hub
      have h14 := hd ⟨14, .data⟩ (by simp) rfl _ rfl
      exact jg_run (by rfl) rfl (wanted_none rfl) (ex_move rfl h14) (Mod.refl _ _) rfl
    · intro tr act w' hm hout hsz hd hG hk hub
      have h15 := hd ⟨15, .guard⟩ (by simp) rfl _ rfl
      exact jg_skip (fun _ _ _ h => h) (by rfl) rfl ((wanted_of rfl rfl (hsz 23 (by decide)) h15).trans rfl) rfl
    · intro tr act w' hm hout hsz hd hG hk hub
      have h15 := hd ⟨15, .guard⟩ (by simp) rfl _ rfl
      exact jg_skip (fun _ _ _ h => h) (by rfl) rfl ((wanted_of rfl rfl (hsz 23 (by decide)) h15).trans rfl) rfl
    · intro tr act w' hm hout hsz hd hG hk hub
      have h15 := hd ⟨15, .guard⟩ (by simp) rfl _ rfl
      exact jg_skip (fun _ _ _ h => h) (by rfl) rfl ((wanted_of rfl rfl (hsz 23 (by decide)) h15).trans rfl) rfl
    · intro tr act w' hm hout hsz hd hG hk hub
      have h15 := hd ⟨15, .data⟩ (by simp) rfl _ rfl
      have h18 := hd ⟨18, .data⟩ (by simp) rfl _ rfl
      exact jg_run (by rfl) rfl (wanted_none rfl) (ex_pick rfl h15 h18 rfl) (Mod.refl _ _) rfl
    · intro tr act w' hm hout hsz hd hG hk hub
      have h19 := hd ⟨19, .data⟩ (by simp) rfl _ rfl
      exact jg_run (by rfl) rfl (wanted_none rfl) (ex_move rfl h19) (Mod.refl _ _) rfl
    · intro tr act w' hm hout hsz hd hG hk hub
      have h20 := hd ⟨20, .guard⟩ (by simp) rfl _ rfl
      exact jg_skip (fun _ _ _ h => h) (by rfl) rfl ((wanted_of rfl rfl (hsz 28 (by decide)) h20).trans rfl) rfl
    · intro tr act w' hm hout hsz hd hG hk hub
      have h20 := hd ⟨20, .guard⟩ (by simp) rfl _ rfl
      exact jg_skip (fun _ _ _ h => h) (by rfl) rfl ((wanted_of rfl rfl (hsz 28 (by decide)) h20).trans rfl) rfl
    · intro tr act w' hm hout hsz hd hG hk hub
      have h20 := hd ⟨20, .guard⟩ (by simp) rfl _ rfl
      exact jg_skip (fun _ _ _ h => h) (by rfl) rfl ((wanted_of rfl rfl (hsz 28 (by decide)) h20).trans rfl) rfl
    · intro tr act w' hm hout hsz hd hG hk hub
      have h20 := hd ⟨20, .data⟩ (by simp) rfl _ rfl
      have h23 := hd ⟨23, .data⟩ (by simp) rfl _ rfl
      exact jg_run (by rfl) rfl (wanted_none rfl) (ex_pick rfl h20 h23 rfl) (Mod.refl _ _) rfl
    · intro tr act w' hm hout hsz hd hG hk hub
      have h24 := hd ⟨24, .data⟩ (by simp) rfl _ rfl
      exact jg_run (by rfl) rfl (wanted_none rfl) (ex_move rfl h24) (Mod.refl _ _) rfl
    · intro tr act w' hm hout hsz hd hG hk hub
      have h25 := hd ⟨25, .guard⟩ (by simp) rfl _ rfl
      exact jg_skip (fun _ _ _ h => h) (by rfl) rfl ((wanted_of rfl rfl (hsz 33 (by decide)) h25).trans rfl) rfl
    · intro tr act w' hm hout hsz hd hG hk hub
      have h25 := hd ⟨25, .guard⟩ (by simp) rfl _ rfl
      exact jg_skip (fun _ _ _ h => h) (by rfl) rfl ((wanted_of rfl rfl (hsz 33 (by decide)) h25).trans rfl) rfl
    · intro tr act w' hm hout hsz hd hG hk hub
      have h25 := hd ⟨25, .guard⟩ (by simp) rfl _ rfl
      exact jg_skip (fun _ _ _ h => h) (by rfl) rfl ((wanted_of rfl rfl (hsz 33 (by decide)) h25).trans rfl) rfl
    · intro tr act w' hm hout hsz hd hG hk hub
      have h25 := hd ⟨25, .data⟩ (by simp) rfl _ rfl
      have h28 := hd ⟨28, .data⟩ (by simp) rfl _ rfl
      exact jg_run (by rfl) rfl (wanted_none rfl) (ex_pick rfl h25 h28 rfl) (Mod.refl _ _) rfl
    · intro tr act w' hm hout hsz hd hG hk hub
      have h29 := hd ⟨29, .data⟩ (by simp) rfl _ rfl
      exact jg_run (by rfl) rfl (wanted_none rfl) (ex_assign rfl h29) (Mod.refl _ _) rfl
    intro vs tr w3 hl htl hm hG hV
    obtain ⟨v0, vs0, rfl, hl0⟩ := list_cons hl
    obtain ⟨v1, vs1, rfl, hl1⟩ := list_cons hl0
    obtain ⟨v2, vs2, rfl, hl2⟩ := list_cons hl1
    obtain ⟨v3, vs3, rfl, hl3⟩ := list_cons hl2
    obtain ⟨v4, vs4, rfl, hl4⟩ := list_cons hl3
    obtain ⟨v5, vs5, rfl, hl5⟩ := list_cons hl4
    obtain ⟨v6, vs6, rfl, hl6⟩ := list_cons hl5
    obtain ⟨v7, vs7, rfl, hl7⟩ := list_cons hl6
    obtain ⟨v8, vs8, rfl, hl8⟩ := list_cons hl7
    obtain ⟨v9, vs9, rfl, hl9⟩ := list_cons hl8
    obtain ⟨v10, vs10, rfl, hl10⟩ := list_cons hl9
    obtain ⟨v11, vs11, rfl, hl11⟩ := list_cons hl10
    obtain ⟨v12, vs12, rfl, hl12⟩ := list_cons hl11
    obtain ⟨v13, vs13, rfl, hl13⟩ := list_cons hl12
    obtain ⟨v14, vs14, rfl, hl14⟩ := list_cons hl13
    obtain ⟨v15, vs15, rfl, hl15⟩ := list_cons hl14
    obtain ⟨v16, vs16, rfl, hl16⟩ := list_cons hl15
    obtain ⟨v17, vs17, rfl, hl17⟩ := list_cons hl16
    obtain ⟨v18, vs18, rfl, hl18⟩ := list_cons hl17
    obtain ⟨v19, vs19, rfl, hl19⟩ := list_cons hl18
    obtain ⟨v20, vs20, rfl, hl20⟩ := list_cons hl19
    obtain ⟨v21, vs21, rfl, hl21⟩ := list_cons hl20
    obtain ⟨v22, vs22, rfl, hl22⟩ := list_cons hl21
    obtain ⟨v23, vs23, rfl, hl23⟩ := list_cons hl22
    obtain ⟨v24, vs24, rfl, hl24⟩ := list_cons hl23
    obtain ⟨v25, vs25, rfl, hl25⟩ := list_cons hl24
    obtain ⟨v26, vs26, rfl, hl26⟩ := list_cons hl25
    obtain ⟨v27, vs27, rfl, hl27⟩ := list_cons hl26
    obtain ⟨v28, vs28, rfl, hl28⟩ := list_cons hl27
    obtain ⟨v29, vs29, rfl, hl29⟩ := list_cons hl28
    obtain ⟨v30, vs30, rfl, hl30⟩ := list_cons hl29
    obtain rfl := list_nil hl30
    clear hl hl0 hl1 hl2 hl3 hl4 hl5 hl6 hl7 hl8 hl9 hl10 hl11 hl12 hl13 hl14 hl15 hl16 hl17 hl18 hl19 hl20 hl21 hl22 hl23 hl24 hl25 hl26 hl27 hl28 hl29 hl30
    obtain rfl : v30 = .bool false := hV 30 _ rfl
    have ha0 := HA0.out
    subst ha0
    clear HA0 hV hsz0 oe2 oe3 oe5
    simp only [putAll, Act.put, List.setIfInBounds_toArray, List.set_cons_zero, List.set_cons_succ]
    have KM3 := Lib.hid (KM2.out.trans hm (fun _ _ h => h))
    clear hm hG
    go_wp2
    go_ret
    exact ⟨congrArg (fun z => Ending.returned (Value.bool z)) (show false = validF k c by unfold validF; (simp only [E0.out, Bool.false_and] <;> rfl)), KM3.out⟩
/-- an opening's cells -/
def opC (i : Int) (v : Value) (h : List Int) : List Value := [.int .i64 i, v] ++ h.map bv
theorem Op.hash {w : World} {g : Nat} {i : Int} {v : Value} {h : List Int} {T : TypeId} (hc : Cs w g (opC i v h).toArray T) : ∀ j u, (h.map bv)[j]? = some u → w.cell? ⟨g, 2 + j, none⟩ = some u := by
  intro j u hu
  rw [hc.cell]
  simp only [List.getElem?_toArray, opC]
  rw [List.getElem?_append_right (by simp)]
  simpa using hu
end Go.Proofs.Ytgnmdnmmemdemaa
