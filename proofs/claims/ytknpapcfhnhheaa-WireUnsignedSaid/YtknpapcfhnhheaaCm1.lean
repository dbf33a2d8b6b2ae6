/- commit.Of. -/
import Derived.Test.YtknpapcfhnhheaaWc
import Derived.Deep.Cut
set_option maxRecDepth 100000
set_option linter.unusedVariables false
namespace Go.Proofs.Ytknpapcfhnhheaa
open Go Go.RowKit Go.Gv

def commitLit : List Int := [99, 111, 109, 109, 105, 116]
def ofC (a b : Int) (h bs : List Int) : Nat → List Int
  | 0 | 1 => []
  | 2 => encN commitLit.length ++ commitLit
  | 3 => (encN commitLit.length ++ commitLit) ++ encI a
  | 4 => ((encN commitLit.length ++ commitLit) ++ encI a) ++ encI b
  | 5 => (((encN commitLit.length ++ commitLit) ++ encI a) ++ encI b) ++ h
  | _ => ((((encN commitLit.length ++ commitLit) ++ encI a) ++ encI b) ++ h) ++ (encN bs.length ++ bs)
def ofT (a b : Int) (h bs : List Int) : List Int := ofC a b h bs 6
def I64 (n : Int) : Prop := -9223372036854775808 ≤ n ∧ n ≤ 9223372036854775807
def OfSt (B g gr : Nat) (ct : Nat → List Int) : Nat → List Value → World → Prop := fun k t w => B ≤ w.heap.size ∧ match k with
  | 0 => WrR (fun k => B ≤ k) (Nf 4) w g (ct 4) ∧ Cs w gr ((List.replicate 32 0).map bv).toArray 25
  | 1 => WrR (fun k => B ≤ k) (Nf 4 + 32) w g (ct 5) ∧ Cs w gr ((List.replicate 32 0).map bv).toArray 25
  | 2 => WrR (fun k => B ≤ k) 900000 w g (ct 6) ∧ Cs w gr ((List.replicate 32 0).map bv).toArray 25
  | 3 => (∃ v, t[2]? = some v ∧ RdB w v (ct 6) ∧ (ct 6).length ≤ 900000) ∧ Cs w gr ((List.replicate 32 0).map bv).toArray 25
  | 4 => Cs w gr ((List.replicate 32 0).map bv).toArray 25
  | _ => Cs w gr ((shaF (ct 6)).map bv).toArray 25
theorem OfSt_still {B g gr : Nat} {ct : Nat → List Int} : ∀ k t w w', OfSt B g gr ct k t w → Mod (fun _ => False) w w' → OfSt B g gr ct k t w' := by
  rintro k t w w' ⟨h0, h⟩ hm
  refine ⟨Nat.le_trans h0 hm.size, ?_⟩
  match k, h with
  | 0, h | 1, h | 2, h => exact ⟨h.1.mod hm (fun _ _ h => h), h.2.mod hm (fun h => h)⟩
  | 3, ⟨⟨v, h1, h2, h3⟩, h4⟩ => exact ⟨⟨v, h1, h2.mod hm (fun _ _ _ h => h), h3⟩, h4.mod hm (fun h => h)⟩
  | 4, h => exact Cs.mod h hm (fun h => h)
  | k + 5, h => exact Cs.mod h hm (fun h => h)
end Go.Proofs.Ytknpapcfhnhheaa
