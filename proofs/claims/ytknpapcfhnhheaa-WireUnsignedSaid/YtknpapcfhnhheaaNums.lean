/- How long a number is; a number that is written longer; a text whose last byte is turned. -/
import Derived.Test.YtknpapcfhnhheaaOwV
set_option maxRecDepth 100000
set_option linter.unusedVariables false
namespace Go.Proofs.Ytknpapcfhnhheaa
open Go Go.RowKit Go.Gv

theorem encN_len_step (m : Nat) : (encN m).length = 1 + (if m / 128 = 0 then 0 else (encN (m / 128)).length) := by
  by_cases h : m < 128
  · rw [encN_lt h, if_pos (by omega)]; rfl
  · rw [encN_ge (by omega), if_neg (by omega), List.length_cons, Nat.add_comm]
theorem encN_last : ∀ m : Nat, ∃ (ini : List Int) (d : Int), encN m = ini ++ [d] ∧ 0 ≤ d ∧ d < 128 ∧ (∀ i acc, decGo i acc (ini ++ [d + 128] ++ [0]) = none) := by
  intro m
  induction m using Nat.strongRecOn with
  | _ m ih =>
    by_cases h : m < 128
    · refine ⟨[], m, by rw [encN_lt h]; rfl, by omega, by omega, fun i acc => ?_⟩
      simp only [List.nil_append, List.cons_append, decGo]
      split
      · rfl
      · rw [if_neg (by omega)]
        split
        · rfl
        · rw [if_pos (by omega), if_pos (by simp)]
    · obtain ⟨ini, d, h1, h2, h3, h4⟩ := ih (m / 128) (by omega)
      refine ⟨((m : Int) % 128 + 128) :: ini, d, by rw [encN_ge (by omega), h1]; rfl, h2, h3, fun i acc => ?_⟩
      simp only [List.cons_append, decGo]
      split
      · rfl
      · rw [if_neg (by omega)]
        exact h4 _ _
theorem rInt_below {most : Int} (s : RSt) (h : most < 0) : rInt most s = (0, none) := by unfold rInt; rw [if_pos (.inr (.inl h))]
theorem dec_255 : decGo 0 0 [255, 255, 255, 255, 255, 255, 255, 255, 255, 2] = none := by decide
theorem or128b {d : Int} (h0 : 0 ≤ d) (h1 : d < 128) : bits .or .u8 d 128 = d + 128 := by
  rw [u8_or d 128 h0 (by omega) (by omega) (by omega)]
  have e : ∀ x, x < 128 → x ||| 128 = x + 128 := by decide
  have := e d.toNat (by omega)
  simp [this]
  omega
theorem OwR.last {R : Nat → Prop} {N : Nat} {w : World} {v : Value} {ini : List Int} {d : Int} (h : OwR R N w v (ini ++ [d])) :
    ∃ g cap, v = .slice (some ⟨g, 0, none⟩) (ini.length + 1) cap ∧ R g ∧ g < w.heap.size ∧ w.cell? ⟨g, ini.length, none⟩ = some (bv d) ∧ w.frozen? ⟨g, ini.length, none⟩ = false ∧
      ∀ y : Int, 0 ≤ y → y < 256 → OwR R N (w.setCell ⟨g, ini.length, none⟩ (bv y)) v (ini ++ [y]) := by
  obtain ⟨h1, h2, h3⟩ := h
  have hby := h1.bytes
  obtain ⟨hl, hE, ⟨rfl, hn⟩ | ⟨g, cap, cur, rfl, hc, q1, q2, q3, q4, q5⟩⟩ := h1
  · simp at hn
  · have q3' : cap ≤ cur.size := by omega
    have hlen : (ini ++ [d]).length = ini.length + 1 := by simp
    rw [hlen] at q1 q4 hl
    refine ⟨g, cap, by rw [hlen], h2 g rfl, hc.lt, ?_, hc.frozen _, fun y h0 hy => ⟨?_, h2, by simpa using h3⟩⟩
    · rw [hc.cell]
      have : cur.toList[ini.length]? = some (bv d) := by
        have e : (cur.toList.take ((ini.length + 1) * 1))[ini.length]? = ((ini ++ [d]).map bv)[ini.length]? := by rw [q4]
        rw [List.getElem?_take, if_pos (by omega)] at e
        rw [e]; simp
      simpa using this
    · refine ⟨by simp, ?_, .inr ⟨g, cap, cur.setIfInBounds ini.length (bv y), by simp, hc.set ini.length (bv y), by simpa using q1, q2, by simpa using q3, ?_, ?_⟩⟩
      · refine isB_all ?_
        intro x hx
        rcases List.mem_append.1 hx with h | h
        · exact hby x (List.mem_append_left _ h)
        · simp at h; subst h; exact ⟨h0, hy⟩
      · rw [Array.toList_setIfInBounds]
        have e2 : (ini ++ [y]).length * 1 = (ini.length + 1) * 1 := by simp
        rw [e2, List.take_set, q4, List.map_append, List.map_append]
        rw [List.set_append_right _ _ (by simp)]
        simp
      · intro u hu
        rw [Array.toList_setIfInBounds] at hu
        rcases List.mem_or_eq_of_mem_set hu with h | h
        · exact q5 u h
        · exact ⟨y, h, h0, hy⟩

/-- s = append(s, x): one byte, built into a block of its own -/
theorem wpList_appR1 {w : World} {e' : TypeId} {y : Int} {ops : Array Oper} {rest : List Oper} {o : Oper} {a : Act} {Q : Exit → Act → World → Prop} (hgd : o.guard = none) (s x : Operand)
    (ho : o.op = .call { callee := .builtin .append, args := #[s, x], argTypes := #[38, 38] })
    {R : Nat → Prop} {N : Nat} {v : Value} {bs : List Int} (hs : a.eval s = v) (hown : OwR R N w v bs) (hx : a.eval x = .slice (some ⟨w.heap.size, 0, none⟩) 1 1) (h0 : 0 ≤ y) (h1 : y < 256)
    (hroom : N + 1 ≤ 1000000)
    (h : ∀ ao cap w', OwR (fun k => R k ∨ New w w' k) (N + 1) w' (.slice ao (bs.length + 1) cap) (bs ++ [y]) → Mod R w w' → wpList Try.prog ops Q rest (a.put o.dst (.slice ao (bs.length + 1) cap)) w') :
    wpList Try.prog ops Q (o :: rest) a (w.alloc (.cells #[bv y] e')) := by
  have hsz : (w.alloc (.cells #[bv y] e')).heap.size = w.heap.size + 1 := by simp
  refine wpList_appR hgd s x ho hs (hown.mod (S := fun _ => False) ((Mod.refl _ _).alloc _) (fun _ _ h => h)) (xv := .slice (some ⟨w.heap.size, 0, none⟩) 1 1) (new := [y]) (R' := fun _ => True) (M := 1) hx ⟨RdB_one w h0 h1 e', fun _ _ _ => trivial, Nat.le_refl _⟩ hroom ?_
  intro ao cap w' hq hm
  refine h ao cap w' (hq.widen (fun k hk => ?_) (Nat.le_refl _)) (((Mod.refl R w).alloc _).trans hm (fun _ _ h => h))
  rcases hk with hk | hk
  · exact .inl hk
  · unfold New at hk ⊢; exact .inr ⟨by omega, hk.2⟩
theorem RdR_new (w : World) (bs : List Int) (hb : Bytes bs) (hl : bs.length ≤ 1000000) (e : TypeId) :
    ∃ w', w.alloc (.cells (bs.map bv).toArray e) = w' ∧ RdR (New w w') bs.length w' (.slice (some ⟨w.heap.size, 0, none⟩) bs.length bs.length) bs ∧ Mod (fun _ => False) w w' := by
  have hc := Cs.new w (bs.map bv).toArray e
  refine ⟨_, rfl, ⟨⟨hb, Rd.mk (Nat.le_refl _) (by rw [maxLen_val]; omega) (by simp) fun j u hu => by rw [Nat.zero_add, hc.cell]; simpa using hu⟩, fun _ g hg => ?_, Nat.le_refl _⟩, (Mod.refl _ _).alloc _⟩
  simp [Value.ownBlock] at hg
  subst hg
  exact ⟨Nat.le_refl _, hc.lt⟩
end Go.Proofs.Ytknpapcfhnhheaa
