/- ShaSets: a set has what was added, each once: for every list of hashes the law returns true. No condition. -/
import Derived.Test.YtfgepphankfbfaaLSets
import Derived.Test.YtfgepphankfbfaaHashArg
import Derived.ProofKit
import Derived.OpenShut
import Derived.ChangeOld
set_option maxRecDepth 100000
set_option linter.unusedVariables false
namespace Go.Proofs.Ytfgepphankfbfaa.shaSets
open Go Go.RowKit Go.Gv Go.ChangeShapes Go.WideShapes Go.ChangeAt
open Go.ChangeMaps (open_string shut_string)

theorem own : ownKnob Try.prog.godebug = none := by kernel_rfl
theorem laidOut : laidOutB Try.prog = true := by kernel_rfl
def V32 : Type := { h : List Int // h.length = 32 }
instance : Inhabited V32 := ⟨⟨List.replicate 32 0, by simp⟩⟩
theorem RdE_map {α : Type} {s : Nat} {c : α → List Value} {c' : List Int → List Value} {f : α → List Int} (hc : ∀ a, c a = c' (f a)) {R : Nat → Prop} {w : World} {v : Value} {l : List α} (h : RdE s c R w v l) : RdE s c' R w v (l.map f) := by
  rcases h with ⟨rfl, ao, cap, rfl⟩ | ⟨g, o, cap, h1, rfl, h2, h3, h4, h5⟩
  · exact Or.inl ⟨rfl, ao, cap, rfl⟩
  · refine Or.inr ⟨g, o, cap, h1, by simp, by simpa using h2, by simpa using h3, h4, fun i hi j u hu => ?_⟩
    have hi' : i < l.length := by simpa using hi
    refine h5 i hi' j u ?_
    rw [hc]
    simpa using hu
theorem hashes_of_trod {H : Type} {enc : TypeId × Value → H} {W : World} {base : Nat} {v : Value} {d : DataW H} {p : List MemPlace} (hv : Value.okWide Try.prog W .any base 82 v)
    (h : DataW.Trod enc Try.prog W 0 (fun _ => true) true 82 v d p) : ∃ l : List (List Int), RdE 32 (fun h : List Int => h.map bv) (fun k => k < W.heap.size) W v l ∧ ∀ a ∈ l, HK a := by
  obtain ⟨a0, len0, cap0, rfl⟩ := okWide_slice Try.underlying82 hv
  obtain ⟨fuel, hf⟩ := h
  obtain ⟨l, h1, h2⟩ := trod_list (s := 32) (fun a : V32 => a.1.map bv) (fun a => Bytes a.1) Try.underlying82 (by kernel_rfl) (by omega) (fun a => by rw [List.length_map, a.2]) (fun fuel cs x hx => by
    obtain ⟨hs, e, b, l⟩ := trod_arr Try.underlying26 Try.underlying5 (by kernel_rfl) (by kernel_rfl) hx
    exact ⟨⟨hs, l⟩, e, b⟩) hf
  refine ⟨l.map (fun x : V32 => x.1), RdE_map (f := fun x : V32 => x.1) (c' := fun h : List Int => h.map bv) (fun _ => rfl) h1, fun a ha => ?_⟩
  obtain ⟨x, hx, rfl⟩ := List.mem_map.1 ha
  exact ⟨x.2, h2 x hx⟩

theorem lifted (os : Os) (started : os.Started) (H : Type) (enc : TypeId × Value → H) :
    ReturnsInHanded {} Try.checked os 8 .any (Rows.shaSetsSpec.pre6 enc Try.prog Try.f8 Rows.shaSetsRow.domain false) (Rows.shaSetsSpec.post enc Try.prog Try.f8 false true false false) := by
  refine returnsInHanded_of_change (C := Try.checked) own started (by kernel_rfl) Try.func8
    (ChangeSpec.witness6 (enc := enc) (C := Try.checked) false ⟨#[], #[.slice none 0 0], []⟩ 8 (by kernel_rfl) (by kernel_rfl) (by kernel_rfl) (by kernel_rfl)) ?_
  intro W base args ds gs before hval0 hW hcnd _
  have hval : ∀ (j : Nat) t v, Try.f8.params[j]? = some t → args[j]? = some v → Value.okWide Try.prog W .any base t v := hval0
  have hW' := hW
  obtain ⟨p, q, hA0, hV, rfl, hfz, hnd⟩ := hW
  have hA : DataW.TrodAll enc Try.prog W 0 (fun _ => true) true Try.f8.params.toList args.toList ds p := hA0
  rw [Try.params8] at hA hval
  obtain ⟨v0, vs0, d0, ds0, p0, q0, hargs, rfl, rfl, h0, r0⟩ := trodAll_cons hA
  obtain ⟨rfl, rfl, rfl⟩ := trodAll_nil r0
  obtain rfl : args = #[v0] := by cases args; simp_all
  obtain ⟨rfl, rfl⟩ := trodVars_none hV
  have k0 := h0
  have lt0 : ∀ x ∈ p0, x.block < W.heap.size := by obtain ⟨m, hm⟩ := k0; exact DataW.trod_lt m _ _ _ hm
  obtain ⟨l0, r0, ok0⟩ := hashes_of_trod (hval 0 82 v0 rfl rfl) h0
  clear hA0 hval0
  refine (ShaSets_walk l0 (fun x hx => ok0 x hx) v0 W r0).mono fun e W' ⟨he, hmod⟩ => ?_
  subst he
  have bel : Below W.heap.size W W' := hmod.below (Nat.le_refl _) (fun _ _ => id)
  exact ⟨_, rfl, _, _, _, [], _, [], hW', trodAll_mk1 (shut_bool Try.underlying4 _), (trodAll_cons_mk (Below.trod laidOut (by kernel_rfl) (of_decide_eq_true (by kernel_rfl)) k0 bel lt0) trodAll_mk0), rfl, bel.frame _, fun h => by cases h⟩

theorem over : Rows.shaSetsRow.holds Try.pinned (OpenSpec.ofChange Rows.shaSetsSpec) :=
  OpenClaim.holds_of_wide 8 Try.f8 rfl rfl rfl rfl rfl rfl rfl ⟨rfl, rfl, rfl, rfl, rfl⟩ rfl rfl rfl rfl rfl (by kernel_rfl) Try.func8 (by kernel_rfl)
    (of_decide_eq_true (by kernel_rfl)) (by unfold Func.isWrapper; first | (rw [if_pos (by decide +kernel)]; kernel_rfl) | (rw [if_neg (by decide +kernel)]; exact ⟨rfl, rfl⟩))
    (fun os started H enc _ => lifted os started H enc)

theorem proved : Rows.ShaSetsSaid := over
end Go.Proofs.Ytfgepphankfbfaa.shaSets
