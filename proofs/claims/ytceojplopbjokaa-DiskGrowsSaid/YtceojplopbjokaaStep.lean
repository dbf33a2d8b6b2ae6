/- append in a region that draws its order, with the blocks. -/
import Derived.Test.YtceojplopbjokaaDiskW
set_option maxRecDepth 100000
set_option linter.unusedVariables false
namespace Go.Proofs.Ytceojplopbjokaa
open Go Go.RowKit Go.Gv

theorem step_appR {w : World} {ops : Array Oper} {o : Oper} {a : Act} {K : Act → World → Prop} {Q : Exit → Act → World → Prop} {X : Prop} (hgd : o.guard = none) (s x : Operand)
    (ho : o.op = .call { callee := .builtin .append, args := #[s, x], argTypes := #[32, 32] })
    {R R' : Nat → Prop} {N M : Nat} {v : Value} {bs : List Int} (hs : a.eval s = v) (hown : OwR R N w v bs) {xv : Value} {new : List Int} (hx : a.eval x = xv) (hrd : RdR R' M w xv new)
    (hroom : N + M ≤ 1000000)
    (h : ∀ ao cap w', OwR (fun k => R k ∨ New w w' k) (N + M) w' (.slice ao (bs.length + new.length) cap) (bs ++ new) → Mod R w w' → K (a.put o.dst (.slice ao (bs.length + new.length) cap)) w') :
    if Region.wanted o (yielded ops a.tmps) = true then Oper.wp Try.prog o a w K Q else X :=
  step_appB hgd s x ho hs hown.1 hx hrd.1 (by have := hown.2.2; have := hrd.2.2; unfold Room; omega) fun ao cap w' ⟨h1, h2, h3⟩ => h ao cap w' ⟨h1, (fun g hg => by
    rcases h3 with h3 | ⟨k, h3, hk⟩
    · exact .inl (hown.2.1 g (h3 ▸ hg))
    · rw [h3] at hg
      obtain rfl : k = g := by simpa using hg
      exact .inr ⟨hk, Own.lt h1 h3⟩), by have := hown.2.2; have := hrd.2.2; simp; omega⟩ (h2.mono (fun k _ hk => hown.2.1 k hk.symm))
end Go.Proofs.Ytceojplopbjokaa
