/- The rounds' numbers; an element of an array value; SHA-256 in plain words. -/
import Derived.Test.YtknpapcfhnhheaaSha3
import Derived.Test.YtknpapcfhnhheaaReg
set_option maxRecDepth 100000
set_option linter.unusedVariables false
namespace Go.Proofs.Ytknpapcfhnhheaa
open Go Go.RowKit Go.Gv

def K256 : List Int := [1116352408, 1899447441, 3049323471, 3921009573, 961987163, 1508970993, 2453635748, 2870763221, 3624381080, 310598401, 607225278, 1426881987, 1925078388, 2162078206, 2614888103, 3248222580, 3835390401, 4022224774, 264347078, 604807628, 770255983, 1249150122, 1555081692, 1996064986, 2554220882, 2821834349, 2952996808, 3210313671, 3336571891, 3584528711, 113926993, 338241895, 666307205, 773529912, 1294757372, 1396182291, 1695183700, 1986661051, 2177026350, 2456956037, 2730485921, 2820302411, 3259730800, 3345764771, 3516065817, 3600352804, 4094571909, 275423344, 430227734, 506948616, 659060556, 883997877, 958139571, 1322822218, 1537002063, 1747873779, 1955562222, 2024104815, 2227730452, 2361852424, 2428436474, 2756734187, 3204031479, 3329325298]
def H256 : List Int := [1779033703, 3144134277, 1013904242, 2773480762, 1359893119, 2600822924, 528734635, 1541459225]
theorem K256_len : K256.length = 64 := by decide
theorem K256_arr : (K256.map wv).toArray = #[wv 1116352408, wv 1899447441, wv 3049323471, wv 3921009573, wv 961987163, wv 1508970993, wv 2453635748, wv 2870763221, wv 3624381080, wv 310598401, wv 607225278, wv 1426881987, wv 1925078388, wv 2162078206, wv 2614888103, wv 3248222580, wv 3835390401, wv 4022224774, wv 264347078, wv 604807628, wv 770255983, wv 1249150122, wv 1555081692, wv 1996064986, wv 2554220882, wv 2821834349, wv 2952996808, wv 3210313671, wv 3336571891, wv 3584528711, wv 113926993, wv 338241895, wv 666307205, wv 773529912, wv 1294757372, wv 1396182291, wv 1695183700, wv 1986661051, wv 2177026350, wv 2456956037, wv 2730485921, wv 2820302411, wv 3259730800, wv 3345764771, wv 3516065817, wv 3600352804, wv 4094571909, wv 275423344, wv 430227734, wv 506948616, wv 659060556, wv 883997877, wv 958139571, wv 1322822218, wv 1537002063, wv 1747873779, wv 1955562222, wv 2024104815, wv 2227730452, wv 2361852424, wv 2428436474, wv 2756734187, wv 3204031479, wv 3329325298] := rfl
theorem zero64_arr : ((List.replicate 64 0).map wv).toArray = Array.replicate 64 (wv 0) := by rw [List.map_replicate]; rfl

set_option maxHeartbeats 4000000 in
theorem rounds_any (w : World) : Calls Try.prog 135 #[] w fun e w' => e = .returned (.agg (K256.map wv).toArray) ∧ Mod (fun _ => False) w w' := by
  obtain ⟨k, hk⟩ : ∃ k, k = K256 := ⟨_, rfl⟩
  have hl : k.length = 64 := by rw [hk]; exact K256_len
  have ha : (k.map wv).toArray = #[wv 1116352408, wv 1899447441, wv 3049323471, wv 3921009573, wv 961987163, wv 1508970993, wv 2453635748, wv 2870763221, wv 3624381080, wv 310598401, wv 607225278, wv 1426881987, wv 1925078388, wv 2162078206, wv 2614888103, wv 3248222580, wv 3835390401, wv 4022224774, wv 264347078, wv 604807628, wv 770255983, wv 1249150122, wv 1555081692, wv 1996064986, wv 2554220882, wv 2821834349, wv 2952996808, wv 3210313671, wv 3336571891, wv 3584528711, wv 113926993, wv 338241895, wv 666307205, wv 773529912, wv 1294757372, wv 1396182291, wv 1695183700, wv 1986661051, wv 2177026350, wv 2456956037, wv 2730485921, wv 2820302411, wv 3259730800, wv 3345764771, wv 3516065817, wv 3600352804, wv 4094571909, wv 275423344, wv 430227734, wv 506948616, wv 659060556, wv 883997877, wv 958139571, wv 1322822218, wv 1537002063, wv 1747873779, wv 1955562222, wv 2024104815, wv 2227730452, wv 2361852424, wv 2428436474, wv 2756734187, wv 3204031479, wv 3329325298] := by rw [hk]; exact K256_arr
  obtain ⟨z, hz⟩ : ∃ z, z = List.replicate 64 (0 : Int) := ⟨_, rfl⟩
  have hzl : z.length = 64 := by rw [hz]; simp
  rw [← hk]
  have HS := Lib.hid (show (Try.prog.info? 171).map (·.size) = some (k.map wv).length by rw [List.length_map, hl]; exact size_a64)
  have HF := Lib.hid (show 0 + (k.map wv).length ≤ (z.map wv).toArray.size by simp [hl, hzl])
  have HLY := Lib.hid (lay_whole (z.map wv).toArray (k.map wv) (by simp [hl, hzl]))
  have HK := Lib.hid ha
  have HC := Lib.hid (show Cs (w.alloc (.cells (Array.replicate 64 (wv 0)) 171)) w.heap.size (z.map wv).toArray 171 by rw [hz, zero64_arr]; exact Cs.new _ _ _)
  clear hk hl ha hz hzl
  go_enter Try.func135, Try.ntmps135
  go_wp2_with ((with_reducible show wpList _ _ _ (Oper.mk none (Op.store 171 (.tmp 0) (.tmp 1)) _ _ _ _ :: _) _ _); go_must (refine wpList_storeA rfl 171 (.tmp 0) (.tmp 1) rfl HC.out (off := 0) (vs := k.map wv) HS.out (wv_one _) HF.out rfl HK.out.symm ?_))
  intro w5 hc5 hm5
  rw [HLY.out] at hc5
  go_wp2
  refine bodyPost_ret (results_cellA rfl _ _ w.heap.size (k.map wv) rfl (fun j u hu => by rw [hc5.cell]; simpa using hu) Try.underlying171 rfl HS.out) rfl ⟨rfl, ((Mod.refl (fun _ => False) w).alloc _).trans (hm5.mono (S' := fun k => k = w.heap.size) (fun k _ hk => hk)) (by intro k h1 h2; omega)⟩

set_option maxHeartbeats 4000000 in
theorem ref_rounds_any (w : World) : Calls Try.prog 137 #[] w fun e w' => e = .returned (.agg (K256.map wv).toArray) ∧ Mod (fun _ => False) w w' := by
  obtain ⟨k, hk⟩ : ∃ k, k = K256 := ⟨_, rfl⟩
  have hl : k.length = 64 := by rw [hk]; exact K256_len
  have ha : (k.map wv).toArray = #[wv 1116352408, wv 1899447441, wv 3049323471, wv 3921009573, wv 961987163, wv 1508970993, wv 2453635748, wv 2870763221, wv 3624381080, wv 310598401, wv 607225278, wv 1426881987, wv 1925078388, wv 2162078206, wv 2614888103, wv 3248222580, wv 3835390401, wv 4022224774, wv 264347078, wv 604807628, wv 770255983, wv 1249150122, wv 1555081692, wv 1996064986, wv 2554220882, wv 2821834349, wv 2952996808, wv 3210313671, wv 3336571891, wv 3584528711, wv 113926993, wv 338241895, wv 666307205, wv 773529912, wv 1294757372, wv 1396182291, wv 1695183700, wv 1986661051, wv 2177026350, wv 2456956037, wv 2730485921, wv 2820302411, wv 3259730800, wv 3345764771, wv 3516065817, wv 3600352804, wv 4094571909, wv 275423344, wv 430227734, wv 506948616, wv 659060556, wv 883997877, wv 958139571, wv 1322822218, wv 1537002063, wv 1747873779, wv 1955562222, wv 2024104815, wv 2227730452, wv 2361852424, wv 2428436474, wv 2756734187, wv 3204031479, wv 3329325298] := by rw [hk]; exact K256_arr
  obtain ⟨z, hz⟩ : ∃ z, z = List.replicate 64 (0 : Int) := ⟨_, rfl⟩
  have hzl : z.length = 64 := by rw [hz]; simp
  rw [← hk]
  have HS := Lib.hid (show (Try.prog.info? 171).map (·.size) = some (k.map wv).length by rw [List.length_map, hl]; exact size_a64)
  have HF := Lib.hid (show 0 + (k.map wv).length ≤ (z.map wv).toArray.size by simp [hl, hzl])
  have HLY := Lib.hid (lay_whole (z.map wv).toArray (k.map wv) (by simp [hl, hzl]))
  have HK := Lib.hid ha
  have HC := Lib.hid (show Cs (w.alloc (.cells (Array.replicate 64 (wv 0)) 171)) w.heap.size (z.map wv).toArray 171 by rw [hz, zero64_arr]; exact Cs.new _ _ _)
  clear hk hl ha hz hzl
  go_enter Try.func137, Try.ntmps137
  go_wp2_with ((with_reducible show wpList _ _ _ (Oper.mk none (Op.store 171 (.tmp 0) (.tmp 1)) _ _ _ _ :: _) _ _); go_must (refine wpList_storeA rfl 171 (.tmp 0) (.tmp 1) rfl HC.out (off := 0) (vs := k.map wv) HS.out (wv_one _) HF.out rfl HK.out.symm ?_))
  intro w5 hc5 hm5
  rw [HLY.out] at hc5
  go_wp2
  refine bodyPost_ret (results_cellA rfl _ _ w.heap.size (k.map wv) rfl (fun j u hu => by rw [hc5.cell]; simpa using hu) Try.underlying171 rfl HS.out) rfl ⟨rfl, ((Mod.refl (fun _ => False) w).alloc _).trans (hm5.mono (S' := fun k => k = w.heap.size) (fun k _ hk => hk)) (by intro k h1 h2; omega)⟩

theorem wpList_idxA {P : Program} {ops : Array Oper} {rest : List Oper} {o : Oper} {a : Act} {w : World} {Q : Exit → Act → World → Prop} (hgd : o.guard = none) (ty : TypeId) (x y : Operand) (ho : o.op = .index ty x y)
    {e : TypeId} {n : Nat} {k : IntKind} (hu : P.underlying ty = some (.array n e)) (he : P.underlying e = some (.int k)) (hsz : (P.info? e).map (·.size) = some 1) (xs : List Int) (hl : xs.length = n) {j : IntKind} {i : Nat} (hi : i < n)
    (hx : a.eval x = .agg (xs.map (Value.int k)).toArray) (hy : a.eval y = .int j i)
    (h : wpList P ops Q rest (a.put o.dst (.int k (xs.getD i 0))) w) : wpList P ops Q (o :: rest) a w := by
  refine wpList_plain hgd fun K hK => ?_
  have hsz' : (sizeOf e).run P w = .ok 1 w := by
    cases hq : P.info? e with
    | none => simp [hq] at hsz
    | some i => have : i.size = 1 := by simpa [hq] using hsz
                simp [sizeOf, typeInfo, hq, this]
  have hp : (part e (xs.map (Value.int k)).toArray (i * 1)).run P w = .ok (.int k (xs.getD i 0)) w := by
    simp [part, isAgg, run_underlying he, List.getD, List.getElem?_eq_getElem (show i < xs.length by omega)]
  have hr : (Instr.index ty (.agg (xs.map (Value.int k)).toArray) (.int j i)).run P w = .ok (.int k (xs.getD i 0)) w := by
    simp only [Instr.index, asIntOf, Sem.run_bind, Sem.run_pure, Result.andThen_ok, run_underlying hu]
    rw [if_pos (by omega)]
    simp only [Sem.run_bind, hsz', Result.andThen_ok, Int.toNat_natCast, hp]
  unfold Oper.wp execOp
  simp only [ho, hx, hy, Sem.run_bind, Sem.run_pure, Result.andThen_ok, hr]
  exact hK _ _ h
end Go.Proofs.Ytknpapcfhnhheaa
