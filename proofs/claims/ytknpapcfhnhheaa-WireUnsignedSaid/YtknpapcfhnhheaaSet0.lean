/- Hashes as keys of maps; zeros. -/
import Derived.Test.YtknpapcfhnhheaaSha5
import Derived.Test.YtknpapcfhnhheaaOps
import Derived.Deep.Cut
set_option maxRecDepth 100000
set_option linter.unusedVariables false
namespace Go.Proofs.Ytknpapcfhnhheaa
open Go Go.RowKit Go.Gv
open Go.Maps (Keyed)

theorem laidOutX : laidOutB Try.prog = true := by kernel_rfl
theorem mapM_ok {α β : Type} {f : α → Option β} : ∀ {l : List α}, (∀ x ∈ l, ∃ y, f x = some y) → ∃ r, l.mapM f = some r
  | [], _ => ⟨[], rfl⟩
  | a :: l, h => by
    obtain ⟨y, hy⟩ := h a (by simp)
    obtain ⟨r, hr⟩ := mapM_ok (l := l) fun x hx => h x (by simp [hx])
    exact ⟨y :: r, by rw [List.mapM_cons, hy]; simp [hr]⟩
/-- a hash -/
def HK (bs : List Int) : Prop := bs.length = 32 ∧ Bytes bs
theorem hv_inj {a b : List Int} (h : hv a = hv b) : a = b := by
  unfold hv at h
  have h2 : a.map bv = b.map bv := by
    have := congrArg (fun v => match v with | Value.agg x => x.toList | _ => []) h
    simpa using this
  exact (List.map_inj_right (fun x y e => by cases e; rfl)).1 h2
theorem hash_key (bs : List Int) (h : HK bs) : ∃ l, keyOf Try.prog 25 (hv bs) = some l := by
  have hu := Try.underlying25
  have hkt : Try.prog.keyType 25 = true := by kernel_rfl
  have hc : Try.prog.cellsOf 25 = 32 := by kernel_rfl
  have hc1 : Try.prog.cellsOf 5 = 1 := by kernel_rfl
  obtain ⟨n, hn⟩ : ∃ n, n + 2 = Try.prog.types.size + 1 := ⟨Try.prog.types.size - 1, by have : 0 < Try.prog.types.size := of_decide_eq_true (by kernel_rfl); omega⟩
  have hfm : (hv bs).formed Try.prog 25 = true := by simp [Value.formed, hv, hu, hc, h.1]
  have hcl : (hv bs).cells.toList = bs.map bv := by simp [hv, Value.cells]
  unfold keyOf
  rw [hu]
  simp only [hkt, hfm, Bool.and_self, if_true, hcl, ← hn]
  obtain ⟨r, hr⟩ : ∃ r, ((List.range 32).mapM fun i => Try.prog.keyLits (n + 1) 5 (((bs.map bv).drop (i * Try.prog.cellsOf 5)).take (Try.prog.cellsOf 5))) = some r := by
    refine mapM_ok fun i hi => ?_
    have hi' : i < bs.length := by rw [h.1]; exact List.mem_range.1 hi
    have hx := h.2 bs[i] (List.getElem_mem hi')
    have e : ((bs.map bv).drop (i * Try.prog.cellsOf 5)).take (Try.prog.cellsOf 5) = [.int .u8 bs[i]] := by
      rw [hc1, Nat.mul_one, List.drop_eq_getElem_cons (by simpa using hi')]
      simp [bv]
    rw [e]
    unfold Program.keyLits
    rw [Try.underlying5]
    have hw : (Lit.int .u8 bs[i]).wf = true := by simp [Lit.wf, IntKind.min, IntKind.max, IntKind.signed, IntKind.bits]; omega
    simp [hw]
  have hk : Try.prog.keyLits (n + 2) 25 (bs.map bv) = some r.flatten := by
    unfold Program.keyLits
    rw [hu]
    simp only [List.length_map, h.1, hc, if_true, hr, Option.map_some]
  exact ⟨_, by rw [hk]; rfl⟩
theorem hash_enc : KeyEnc Try.prog 25 hv HK where
  law := Keyed.of_law (deep_law_laid laidOutX (m := 3) (by omega) (of_decide_eq_true (by kernel_rfl)) (by kernel_rfl) (by kernel_rfl))
  key := hash_key
  inj := fun a b _ _ h => hv_inj h

theorem zero_run {P : Program} {T : TypeId} {z : Value} (h : (P.info? T).bind (·.zero) = some z) (w : World) : (zeroValue T).run P w = .ok z w := by
  obtain ⟨info, hi, hz⟩ := zero_of h
  simp [zeroValue, typeInfo, hi, hz]
theorem zero_bool : (Try.prog.info? 4).bind (·.zero) = some (.bool false) := by kernel_rfl
theorem zero_int : (Try.prog.info? 3).bind (·.zero) = some (.int .i64 0) := by kernel_rfl
end Go.Proofs.Ytknpapcfhnhheaa
