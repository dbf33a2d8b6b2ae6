/- code.Writer.Hash: 32 bytes behind what is written. -/
import Derived.Test.YtknpapcfhnhheaaCode3
import Derived.Test.YtknpapcfhnhheaaCode1
set_option maxRecDepth 100000
namespace Go.Proofs.Ytknpapcfhnhheaa
open Go Go.RowKit Go.Gv

theorem WHash_any (b : Nat) (v : Value) (bs h : List Int) (w : World) (hW : Wr w b v bs) (hh : h.length = 32) (hB : Bytes h) (hl : bs.length + 32 ≤ Room) :
    Calls Try.prog 66 #[.pointer (some ⟨b, 0, none⟩), hv h] w fun e w' => e = .returned (.pointer (some ⟨b, 0, none⟩)) ∧ WrTo w b v (bs ++ h) w' := by
  have hlt := hW.1.lt
  obtain ⟨w1, e1, hW1, hc1, hm1⟩ : ∃ w1, w.alloc (.cells (h.map bv).toArray 25) = w1 ∧ Wr w1 b v bs ∧ Cs w1 w.heap.size (h.map bv).toArray 25 ∧ Mod (fun _ => False) w w1 :=
    ⟨_, rfl, hW.mod ((Mod.refl _ _).alloc _) id (fun _ _ => id), Cs.new _ _ _, (Mod.refl _ _).alloc _⟩
  have hcell : w1.cell? ⟨b, 0, none⟩ = some v := (hW1.1.cell 0).trans rfl
  have hrd : RdB w1 (.slice (some ⟨w.heap.size, 0, none⟩) 32 32) h := ⟨hB, by
    rw [hh]
    exact Rd.mk (Nat.le_refl _) (by rw [maxLen_val]; omega) (by simp [hh]) (fun j u hu => by rw [Nat.zero_add, hc1.cell]; simpa using hu)⟩
  have Hroom := Lib.hid (show bs.length + h.length ≤ Room by omega)
  have HW1 := Lib.hid hW1
  have HRD := Lib.hid hrd
  have HM1 := Lib.hid hm1
  have E1 := Lib.hid e1
  have HH := Lib.hid hh
  clear hW hc1 hrd hm1 hh hB hl e1 hW1
  unfold hv
  go_enter Try.func66, Try.ntmps66
  go_wp2_with fail
  rw [E1.out]
  go_region_law (refine step_appB rfl (.tmp 9) (.tmp 10) rfl rfl (OwnB.drew HW1.out.2) (new := h) rfl HRD.out.drew Hroom.out ?_; intro ao cap w2 happ; obtain ⟨hc2, hf2, hWT⟩ := Wr_step HW1.out _ ((Mod.refl _ _).drew) h happ (Wr_ne HW1.out); have HWT := Lib.hid hWT; clear hWT happ)
  go_wp2
  go_ret
  refine ⟨rfl, ?_⟩
  exact WrTo.trans (HM1.out.mono (fun _ _ h => h.elim)) (.inl rfl) HWT.out
end Go.Proofs.Ytknpapcfhnhheaa
