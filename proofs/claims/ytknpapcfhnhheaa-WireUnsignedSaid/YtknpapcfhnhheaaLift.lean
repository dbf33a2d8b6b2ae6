/- From a reading of the arguments to what the walks take: numbers, slices of bytes. -/
import Derived.Test.YtknpapcfhnhheaaBytes
import Derived.ProofKit
import Derived.OpenShut
import Derived.ChangeOld
set_option maxRecDepth 100000
namespace Go.Proofs.Ytknpapcfhnhheaa
open Go Go.RowKit Go.Gv Go.ChangeShapes Go.WideShapes Go.ChangeAt

theorem u64_nat {a : Int} (h : (Lit.int .u64 a).wf = true) : ∃ n : Nat, a = n ∧ n < U64 := by
  have := bounds_u64 h
  exact ⟨a.toNat, by omega, by unfold U64; omega⟩
theorem i64_bd {a : Int} (h : (Lit.int .i64 a).wf = true) : -9223372036854775808 ≤ a ∧ a ≤ 9223372036854775807 := bounds_i64 h

theorem bytes_of_trod {H : Type} {enc : TypeId × Value → H} {W : World} {base : Nat} {v : Value} {d : DataW H} {p : List MemPlace} (hv : Value.okWide Try.prog W .any base 38 v)
    (h : DataW.Trod enc Try.prog W 0 (fun _ => true) true 38 v d p) : ∃ bs, RdB W v bs ∧ Apart v bs.length (fun k => W.heap.size ≤ k) := by
  obtain ⟨a0, len0, cap0, rfl⟩ := okWide_slice Try.underlying38 hv
  obtain ⟨fuel, hf⟩ := h
  rcases open_ints Try.underlying38 Try.underlying5 (by kernel_rfl) hf with ⟨hcs, _⟩ | ⟨x, l, c, zs, hcs, _, hl, hm, hz, hx, hcell, hwz⟩
  · simp [Value.cells] at hcs
    obtain ⟨rfl, rfl, rfl⟩ := hcs
    exact ⟨[], RdB.nil _, Apart.zero⟩
  · simp [Value.cells] at hcs
    obtain ⟨rfl, rfl, rfl⟩ := hcs
    simp only [if_true] at hz
    have hbl : (zs.take len0).length = len0 := by simp; omega
    refine ⟨zs.take len0, ⟨?_, ?_⟩, ?_⟩
    · intro y hy
      have := bounds_u8 (hwz y (List.mem_of_mem_take hy))
      omega
    · rw [hbl]
      refine ⟨by simp; omega, some x, cap0, rfl, hl, hm, (fun h => by cases h), ?_⟩
      intro y hy j u hu
      cases hy
      simp only [List.getElem?_map, Option.map_eq_some_iff] at hu
      obtain ⟨q, hq, rfl⟩ := hu
      have hj : j < len0 := by have := (List.getElem?_eq_some_iff.1 hq).1; omega
      rw [List.getElem?_take, if_pos hj] at hq
      have h0 := hcell 0 (by omega)
      refine ⟨by simpa [Addr.add] using World.cell?_spot h0, ?_⟩
      rw [hcell j (by omega)]
      simp [List.getD, hq]
    · intro h0 g hg
      rw [hbl] at h0
      simp [Value.ownBlock] at hg
      subst hg
      have h0 := World.block_lt_of_cell? _ _ (hcell 0 (by omega))
      simp [Addr.add] at h0
      omega
end Go.Proofs.Ytknpapcfhnhheaa
