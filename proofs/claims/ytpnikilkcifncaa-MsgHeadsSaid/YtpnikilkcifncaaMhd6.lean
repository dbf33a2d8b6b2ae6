/- Texts that are built one behind the other: XMq, XMl, XCmEq, XEq, XEb. No condition. -/
import Derived.Test.YtpnikilkcifncaaMhd5
set_option maxRecDepth 100000
set_option linter.unusedVariables false
/- msgs.get. -/
namespace Go.Proofs.Ytpnikilkcifncaa
open Go Go.RowKit Go.Gv


/-- what is read of a message, behind its kind, whom it is from and to -/
def gBody (m : Mg) (s : RSt) : Mg × RSt :=
  if m.kd = 1 then gb gCm (fun c s => ({ m with cm := c }, s)) s else
  if m.kd = 2 then gb gSt (fun c s => ({ m with st := c }, s)) s else
  if m.kd = 3 then gb gCe (fun c s => ({ m with ce := c }, s)) s else
  if m.kd = 4 then gb gSt (fun c s => ({ m with ak := c }, s)) s else
  if m.kd = 5 then gb gI (fun a => gb gI fun b => gb rNum fun c s => ({ m with ep := a, rn := b, tm := c }, s)) s else
  if m.kd = 6 then gb gPm (fun c s => ({ m with pm := c }, s)) s else
  if m.kd = 7 then gb gPr (fun c s => ({ m with pr := c }, s)) s else
  if m.kd = 8 then gb gVt (fun c s => ({ m with vt := c }, s)) s else
  if m.kd = 9 then gb gI (fun a => gb gEn fun c s => ({ m with ix := a, en := c }, s)) s else
  if m.kd = 10 then gb gOp (fun c s => ({ m with op := c }, s)) s else
  if m.kd = 11 then gb gI (fun c s => ({ m with ix := c }, s)) s else
  if m.kd = 12 then gb gDn (fun c s => ({ m with dn := c }, s)) s else
  if m.kd = 13 then gb gI (fun a => gb (rRow 256) fun b s => ({ m with ix := a, rp := strOfNums b }, s)) s else
  if m.kd = 14 then gb gI (fun a => gb gI fun b => gb gBa fun c => gb (gList gVt) fun l s => ({ m with dc := ⟨a, b, c, l⟩ }, s)) s else (m, s)
def gMg : RSt → Mg × RSt := gb gI fun k => gb gI fun f => gb gI fun t => gBody { zMg with kd := k, fr := f, to := t }
set_option maxHeartbeats 8000000 in
theorem get_Q : ∀ (R R2 : Nat → Prop) (r : Nat) (s : RSt) (cs : List Value) (x : Mg) (w : World), RrR 183 R w r s → (∀ k, R k → k < w.heap.size) → MgR.rd R2 w cs x → (∀ k, R2 k → k < w.heap.size) → (∀ k, R k → R2 k → False) → (s.getD []).length ≤ 900000 →
    Calls Try.prog 62 #[.pointer (some ⟨r, 0, none⟩), .agg cs.toArray] w fun e w' => ∃ cs', e = .returned (.agg cs'.toArray) ∧ MgR.rd (fun k => R2 k ∨ New w w' k) w' cs' (gBody x s).1 ∧ RrR 183 R w' r (gBody x s).2 ∧ Mod R w w' := by
  intro R R2 r s cs x w hR hB hx hB2 hD hl
  obtain ⟨c5, c10, c11, c15, c18, rfl, hok, h5, h10, h11, h15, h18⟩ := hx
  have HLN := hid (Mg.lns hok h5 h10 h11 h15 h18)
  have HC5 := hid (CeR.len h5)
  have H5 := Lib.hid h5
  have HC10 := hid (PmR.len h10)
  have H10 := Lib.hid h10
  have HC11 := hid (PrR.len h11)
  have H11 := Lib.hid h11
  have HC15 := hid (OpR.len h15)
  have H15 := Lib.hid h15
  have HC18 := hid (DcR.len h18)
  have H18 := Lib.hid h18
  have HRD := Lib.hid hR
  have HBR := Lib.hid hB
  have HBT := Lib.hid hB2
  have HDJ := Lib.hid hD
  have HOK := Lib.hid hok
  have HLE := Lib.hid hl
  have HBY := hid hR.bytes
  clear hR hB hB2 hD hl hok h5 h10 h11 h15 h18
  go_enter Try.func62, Try.ntmps62
  go_upto_region 1 with (fail)
  obtain ⟨w1, hw1⟩ : ∃ zz, zz = ((w.alloc (.cells ((x.segs c5 c10 c11 c15 c18).flatten : List Value).toArray 109)).alloc (.cells #[.int .i64 0, .int .i64 0, .int .i64 0, .int .i64 0, .int .i64 0, .int .u8 0, .int .u8 0, .int .u8 0, .int .u8 0, .int .u8 0, .int .u8 0, .int .u8 0, .int .u8 0, .int .u8 0, .int .u8 0, .int .u8 0, .int .u8 0, .int .u8 0, .int .u8 0, .int .u8 0, .int .u8 0, .int .u8 0, .int .u8 0, .int .u8 0, .int .u8 0, .int .u8 0, .int .u8 0, .int .u8 0, .int .u8 0, .int .u8 0, .int .u8 0, .int .u8 0, .int .u8 0, .int .u8 0, .int .u8 0, .int .u8 0, .int .u8 0, .int .i64 0, .int .i64 0, .int .i64 0, .int .i64 0, .int .i64 0, .int .i64 0, .int .u8 0, .int .u8 0, .int .u8 0, .int .u8 0, .int .u8 0, .int .u8 0, .int .u8 0, .int .u8 0, .int .u8 0, .int .u8 0, .int .u8 0, .int .u8 0, .int .u8 0, .int .u8 0, .int .u8 0, .int .u8 0, .int .u8 0, .int .u8 0, .int .u8 0, .int .u8 0, .int .u8 0, .int .u8 0, .int .u8 0, .int .u8 0, .int .u8 0, .int .u8 0, .int .u8 0, .int .u8 0, .int .u8 0, .int .u8 0, .int .u8 0, .int .u8 0, .int .u64 0, .int .i64 0, .int .i64 0, .int .i64 0, .int .i64 0, .int .u8 0, .int .u8 0, .int .u8 0, .int .u8 0, .int .u8 0, .int .u8 0, .int .u8 0, .int .u8 0, .int .u8 0, .int .u8 0, .int .u8 0, .int .u8 0, .int .u8 0, .int .u8 0, .int .u8 0, .int .u8 0, .int .u8 0, .int .u8 0, .int .u8 0, .int .u8 0, .int .u8 0, .int .u8 0, .int .u8 0, .int .u8 0, .int .u8 0, .int .u8 0, .int .u8 0, .int .u8 0, .int .u8 0, .int .u8 0, .int .u8 0, .int .u8 0, .int .i64 0, .int .i64 0, .int .i64 0, .slice none 0 0, .int .i64 0, .int .i64 0, .int .i64 0, .int .u8 0, .int .u8 0, .int .u8 0, .int .u8 0, .int .u8 0, .int .u8 0, .int .u8 0, .int .u8 0, .int .u8 0, .int .u8 0, .int .u8 0, .int .u8 0, .int .u8 0, .int .u8 0, .int .u8 0, .int .u8 0, .int .u8 0, .int .u8 0, .int .u8 0, .int .u8 0, .int .u8 0, .int .u8 0, .int .u8 0, .int .u8 0, .int .u8 0, .int .u8 0, .int .u8 0, .int .u8 0, .int .u8 0, .int .u8 0, .int .u8 0, .int .u8 0, .int .u64 0, .int .i64 0, .int .i64 0, .int .i64 0, .int .i64 0, .int .u64 0, .int .i64 0, .int .i64 0, .int .u64 0, .slice none 0 0, .int .i64 0, .int .i64 0, .int .i64 0, .int .i64 0, .int .i64 0, .int .i64 0, .int .i64 0, .int .u64 0, .slice none 0 0, .slice none 0 0, .slice none 0 0, .int .i64 0, .int .i64 0, .int .i64 0, .int .i64 0, .int .i64 0, .int .i64 0, .int .u8 0, .int .u8 0, .int .u8 0, .int .u8 0, .int .u8 0, .int .u8 0, .int .u8 0, .int .u8 0, .int .u8 0, .int .u8 0, .int .u8 0, .int .u8 0, .int .u8 0, .int .u8 0, .int .u8 0, .int .u8 0, .int .u8 0, .int .u8 0, .int .u8 0, .int .u8 0, .int .u8 0, .int .u8 0, .int .u8 0, .int .u8 0, .int .u8 0, .int .u8 0, .int .u8 0, .int .u8 0, .int .u8 0, .int .u8 0, .int .u8 0, .int .u8 0, .int .i64 0, .int .i64 0, .int .i64 0, .int .i64 0, .int .i64 0, .int .u8 0, .int .u8 0, .int .u8 0, .int .u8 0, .int .u8 0, .int .u8 0, .int .u8 0, .int .u8 0, .int .u8 0, .int .u8 0, .int .u8 0, .int .u8 0, .int .u8 0, .int .u8 0, .int .u8 0, .int .u8 0, .int .u8 0, .int .u8 0, .int .u8 0, .int .u8 0, .int .u8 0, .int .u8 0, .int .u8 0, .int .u8 0, .int .u8 0, .int .u8 0, .int .u8 0, .int .u8 0, .int .u8 0, .int .u8 0, .int .u8 0, .int .u8 0, .int .u64 0, .int .i64 0, .slice none 0 0, .int .u8 0, .int .u8 0, .int .u8 0, .int .u8 0, .int .u8 0, .int .u8 0, .int .u8 0, .int .u8 0, .int .u8 0, .int .u8 0, .int .u8 0, .int .u8 0, .int .u8 0, .int .u8 0, .int .u8 0, .int .u8 0, .int .u8 0, .int .u8 0, .int .u8 0, .int .u8 0, .int .u8 0, .int .u8 0, .int .u8 0, .int .u8 0, .int .u8 0, .int .u8 0, .int .u8 0, .int .u8 0, .int .u8 0, .int .u8 0, .int .u8 0, .int .u8 0, .int .i64 0, .int .i64 0, .int .i64 0, .int .i64 0, .string ByteArray.empty, .int .i64 0, .int .i64 0, .int .i64 0, .int .u64 0, .slice none 0 0, .slice none 0 0, .slice none 0 0, .slice none 0 0] 109)) := ⟨_, rfl⟩
  change Code.wp _ _ _ _ ((w.alloc (.cells ((x.segs c5 c10 c11 c15 c18).flatten : List Value).toArray 109)).alloc (.cells #[.int .i64 0, .int .i64 0, .int .i64 0, .int .i64 0, .int .i64 0, .int .u8 0, .int .u8 0, .int .u8 0, .int .u8 0, .int .u8 0, .int .u8 0, .int .u8 0, .int .u8 0, .int .u8 0, .int .u8 0, .int .u8 0, .int .u8 0, .int .u8 0, .int .u8 0, .int .u8 0, .int .u8 0, .int .u8 0, .int .u8 0, .int .u8 0, .int .u8 0, .int .u8 0, .int .u8 0, .int .u8 0, .int .u8 0, .int .u8 0, .int .u8 0, .int .u8 0, .int .u8 0, .int .u8 0, .int .u8 0, .int .u8 0, .int .u8 0, .int .i64 0, .int .i64 0, .int .i64 0, .int .i64 0, .int .i64 0, .int .i64 0, .int .u8 0, .int .u8 0, .int .u8 0, .int .u8 0, .int .u8 0, .int .u8 0, .int .u8 0, .int .u8 0, .int .u8 0, .int .u8 0, .int .u8 0, .int .u8 0, .int .u8 0, .int .u8 0, .int .u8 0, .int .u8 0, .int .u8 0, .int .u8 0, .int .u8 0, .int .u8 0, .int .u8 0, .int .u8 0, .int .u8 0, .int .u8 0, .int .u8 0, .int .u8 0, .int .u8 0, .int .u8 0, .int .u8 0, .int .u8 0, .int .u8 0, .int .u8 0, .int .u64 0, .int .i64 0, .int .i64 0, .int .i64 0, .int .i64 0, .int .u8 0, .int .u8 0, .int .u8 0, .int .u8 0, .int .u8 0, .int .u8 0, .int .u8 0, .int .u8 0, .int .u8 0, .int .u8 0, .int .u8 0, .int .u8 0, .int .u8 0, .int .u8 0, .int .u8 0, .int .u8 0, .int .u8 0, .int .u8 0, .int .u8 0, .int .u8 0, .int .u8 0, .int .u8 0, .int .u8 0, .int .u8 0, .int .u8 0, .int .u8 0, .int .u8 0, .int .u8 0, .int .u8 0, .int .u8 0, .int .u8 0, .int .u8 0, .int .i64 0, .int .i64 0, .int .i64 0, .slice none 0 0, .int .i64 0, .int .i64 0, .int .i64 0, .int .u8 0, .int .u8 0, .int .u8 0, .int .u8 0, .int .u8 0, .int .u8 0, .int .u8 0, .int .u8 0, .int .u8 0, .int .u8 0, .int .u8 0, .int .u8 0, .int .u8 0, .int .u8 0, .int .u8 0, .int .u8 0, .int .u8 0, .int .u8 0, .int .u8 0, .int .u8 0, .int .u8 0, .int .u8 0, .int .u8 0, .int .u8 0, .int .u8 0, .int .u8 0, .int .u8 0, .int .u8 0, .int .u8 0, .int .u8 0, .int .u8 0, .int .u8 0, .int .u64 0, .int .i64 0, .int .i64 0, .int .i64 0, .int .i64 0, .int .u64 0, .int .i64 0, .int .i64 0, .int .u64 0, .slice none 0 0, .int .i64 0, .int .i64 0, .int .i64 0, .int .i64 0, .int .i64 0, .int .i64 0, .int .i64 0, .int .u64 0, .slice none 0 0, .slice none 0 0, .slice none 0 0, .int .i64 0, .int .i64 0, .int .i64 0, .int .i64 0, .int .i64 0, .int .i64 0, .int .u8 0, .int .u8 0, .int .u8 0, .int .u8 0, .int .u8 0, .int .u8 0, .int .u8 0, .int .u8 0, .int .u8 0, .int .u8 0, .int .u8 0, .int .u8 0, .int .u8 0, .int .u8 0, .int .u8 0, .int .u8 0, .int .u8 0, .int .u8 0, .int .u8 0, .int .u8 0, .int .u8 0, .int .u8 0, .int .u8 0, .int .u8 0, .int .u8 0, .int .u8 0, .int .u8 0, .int .u8 0, .int .u8 0, .int .u8 0, .int .u8 0, .int .u8 0, .int .i64 0, .int .i64 0, .int .i64 0, .int .i64 0, .int .i64 0, .int .u8 0, .int .u8 0, .int .u8 0, .int .u8 0, .int .u8 0, .int .u8 0, .int .u8 0, .int .u8 0, .int .u8 0, .int .u8 0, .int .u8 0, .int .u8 0, .int .u8 0, .int .u8 0, .int .u8 0, .int .u8 0, .int .u8 0, .int .u8 0, .int .u8 0, .int .u8 0, .int .u8 0, .int .u8 0, .int .u8 0, .int .u8 0, .int .u8 0, .int .u8 0, .int .u8 0, .int .u8 0, .int .u8 0, .int .u8 0, .int .u8 0, .int .u8 0, .int .u64 0, .int .i64 0, .slice none 0 0, .int .u8 0, .int .u8 0, .int .u8 0, .int .u8 0, .int .u8 0, .int .u8 0, .int .u8 0, .int .u8 0, .int .u8 0, .int .u8 0, .int .u8 0, .int .u8 0, .int .u8 0, .int .u8 0, .int .u8 0, .int .u8 0, .int .u8 0, .int .u8 0, .int .u8 0, .int .u8 0, .int .u8 0, .int .u8 0, .int .u8 0, .int .u8 0, .int .u8 0, .int .u8 0, .int .u8 0, .int .u8 0, .int .u8 0, .int .u8 0, .int .u8 0, .int .u8 0, .int .i64 0, .int .i64 0, .int .i64 0, .int .i64 0, .string ByteArray.empty, .int .i64 0, .int .i64 0, .int .i64 0, .int .u64 0, .slice none 0 0, .slice none 0 0, .slice none 0 0, .slice none 0 0] 109))
  rw [← hw1]
  have HB3 := hid (show Cs w1 (w.heap.size) ((x.segs c5 c10 c11 c15 c18).flatten : List Value).toArray 109 by rw [hw1]; exact (Cs.new _ _ _).alloc _)
  have HB4 := hid (show Cs w1 (w.heap.size + 1) #[.int .i64 0, .int .i64 0, .int .i64 0, .int .i64 0, .int .i64 0, .int .u8 0, .int .u8 0, .int .u8 0, .int .u8 0, .int .u8 0, .int .u8 0, .int .u8 0, .int .u8 0, .int .u8 0, .int .u8 0, .int .u8 0, .int .u8 0, .int .u8 0, .int .u8 0, .int .u8 0, .int .u8 0, .int .u8 0, .int .u8 0, .int .u8 0, .int .u8 0, .int .u8 0, .int .u8 0, .int .u8 0, .int .u8 0, .int .u8 0, .int .u8 0, .int .u8 0, .int .u8 0, .int .u8 0, .int .u8 0, .int .u8 0, .int .u8 0, .int .i64 0, .int .i64 0, .int .i64 0, .int .i64 0, .int .i64 0, .int .i64 0, .int .u8 0, .int .u8 0, .int .u8 0, .int .u8 0, .int .u8 0, .int .u8 0, .int .u8 0, .int .u8 0, .int .u8 0, .int .u8 0, .int .u8 0, .int .u8 0, .int .u8 0, .int .u8 0, .int .u8 0, .int .u8 0, .int .u8 0, .int .u8 0, .int .u8 0, .int .u8 0, .int .u8 0, .int .u8 0, .int .u8 0, .int .u8 0, .int .u8 0, .int .u8 0, .int .u8 0, .int .u8 0, .int .u8 0, .int .u8 0, .int .u8 0, .int .u8 0, .int .u64 0, .int .i64 0, .int .i64 0, .int .i64 0, .int .i64 0, .int .u8 0, .int .u8 0, .int .u8 0, .int .u8 0, .int .u8 0, .int .u8 0, .int .u8 0, .int .u8 0, .int .u8 0, .int .u8 0, .int .u8 0, .int .u8 0, .int .u8 0, .int .u8 0, .int .u8 0, .int .u8 0, .int .u8 0, .int .u8 0, .int .u8 0, .int .u8 0, .int .u8 0, .int .u8 0, .int .u8 0, .int .u8 0, .int .u8 0, .int .u8 0, .int .u8 0, .int .u8 0, .int .u8 0, .int .u8 0, .int .u8 0, .int .u8 0, .int .i64 0, .int .i64 0, .int .i64 0, .slice none 0 0, .int .i64 0, .int .i64 0, .int .i64 0, .int .u8 0, .int .u8 0, .int .u8 0, .int .u8 0, .int .u8 0, .int .u8 0, .int .u8 0, .int .u8 0, .int .u8 0, .int .u8 0, .int .u8 0, .int .u8 0, .int .u8 0, .int .u8 0, .int .u8 0, .int .u8 0, .int .u8 0, .int .u8 0, .int .u8 0, .int .u8 0, .int .u8 0, .int .u8 0, .int .u8 0, .int .u8 0, .int .u8 0, .int .u8 0, .int .u8 0, .int .u8 0, .int .u8 0, .int .u8 0, .int .u8 0, .int .u8 0, .int .u64 0, .int .i64 0, .int .i64 0, .int .i64 0, .int .i64 0, .int .u64 0, .int .i64 0, .int .i64 0, .int .u64 0, .slice none 0 0, .int .i64 0, .int .i64 0, .int .i64 0, .int .i64 0, .int .i64 0, .int .i64 0, .int .i64 0, .int .u64 0, .slice none 0 0, .slice none 0 0, .slice none 0 0, .int .i64 0, .int .i64 0, .int .i64 0, .int .i64 0, .int .i64 0, .int .i64 0, .int .u8 0, .int .u8 0, .int .u8 0, .int .u8 0, .int .u8 0, .int .u8 0, .int .u8 0, .int .u8 0, .int .u8 0, .int .u8 0, .int .u8 0, .int .u8 0, .int .u8 0, .int .u8 0, .int .u8 0, .int .u8 0, .int .u8 0, .int .u8 0, .int .u8 0, .int .u8 0, .int .u8 0, .int .u8 0, .int .u8 0, .int .u8 0, .int .u8 0, .int .u8 0, .int .u8 0, .int .u8 0, .int .u8 0, .int .u8 0, .int .u8 0, .int .u8 0, .int .i64 0, .int .i64 0, .int .i64 0, .int .i64 0, .int .i64 0, .int .u8 0, .int .u8 0, .int .u8 0, .int .u8 0, .int .u8 0, .int .u8 0, .int .u8 0, .int .u8 0, .int .u8 0, .int .u8 0, .int .u8 0, .int .u8 0, .int .u8 0, .int .u8 0, .int .u8 0, .int .u8 0, .int .u8 0, .int .u8 0, .int .u8 0, .int .u8 0, .int .u8 0, .int .u8 0, .int .u8 0, .int .u8 0, .int .u8 0, .int .u8 0, .int .u8 0, .int .u8 0, .int .u8 0, .int .u8 0, .int .u8 0, .int .u8 0, .int .u64 0, .int .i64 0, .slice none 0 0, .int .u8 0, .int .u8 0, .int .u8 0, .int .u8 0, .int .u8 0, .int .u8 0, .int .u8 0, .int .u8 0, .int .u8 0, .int .u8 0, .int .u8 0, .int .u8 0, .int .u8 0, .int .u8 0, .int .u8 0, .int .u8 0, .int .u8 0, .int .u8 0, .int .u8 0, .int .u8 0, .int .u8 0, .int .u8 0, .int .u8 0, .int .u8 0, .int .u8 0, .int .u8 0, .int .u8 0, .int .u8 0, .int .u8 0, .int .u8 0, .int .u8 0, .int .u8 0, .int .i64 0, .int .i64 0, .int .i64 0, .int .i64 0, .string ByteArray.empty, .int .i64 0, .int .i64 0, .int .i64 0, .int .u64 0, .slice none 0 0, .slice none 0 0, .slice none 0 0, .slice none 0 0] 109 by rw [hw1]; exact Cs_newN _ _ _ (by simp))
  have hm : Mod (fun _ => False) w w1 := by rw [hw1]; exact ((Mod.refl _ _).alloc _).alloc _
  have HM0 := hid (show Mod (fun k => (R k)) w w1 from hm.mono (fun _ _ h => h.elim))
  have hs1 : w1.heap.size = w.heap.size + 2 := by rw [hw1]; simp
  have Hx1 := hid (HRD.out.mod hm (fun _ _ h => h))
  clear HRD
  have Hx2 := hid (H5.out.mod hm (fun _ _ h => h))
  clear H5
  have Hx3 := hid (H10.out.mod hm (fun _ _ h => h))
  clear H10
  have Hx4 := hid (H11.out.mod hm (fun _ _ h => h))
  clear H11
  have Hx5 := hid (H15.out.mod hm (fun _ _ h => h))
  clear H15
  have Hx6 := hid (H18.out.mod hm (fun _ _ h => h))
  clear H18
  clear hw1 hm
  go_upto_region 1 with (fail)
  refine wp_region_U 98 [5, 6] [0, 1] (fun a0 HA0 => ?_)
  have oe3 := ev HA0 3 rfl
  refine QSeq.pure rfl (.pointer (some ⟨w.heap.size, 0, none⟩)) (fun E => ex_field rfl Try.underlying109 rfl (by kernel_rfl) (E.v oe3)) ?_
  refine QSeq.pure rfl (.int .i64 x.kd) (fun E => ex_load1 rfl Try.underlying3 rfl (E.d 0 0) (Cs.seg1 HB3.out HLN.out 0 rfl (o := 0) (k := 0) rfl rfl rfl)) ?_
  refine QSeq.nil (t' := [_, _]) rfl ?_
  obtain rfl := HA0.out
  clear HA0 oe3
  simp only [pz, Act.put, List.setIfInBounds_toArray, List.set_cons_zero, List.set_cons_succ]
  by_cases h1 : x.kd = 1
  · have KK := Lib.hid h1
    clear h1
    go_upto_region 2 with (fail)
    refine wp_region_U 98 [8, 7] [0, 1] (fun a0 HA0 => ?_)
    have oe6 := ev HA0 6 rfl
    refine QSeq.pure rfl (.bool true) (fun E => ex_binE rfl (E.v oe6) rfl (guard_ints _ _ _ _ _ _) (run_eql_i _ _ _ Try.underlying3) (congrArg Value.bool (eq_tt KK.out))) ?_
    refine QSeq.pure rfl _ (fun E => ex_assign rfl (E.d 0 0)) ?_
    refine QSeq.nil (t' := [_, _]) rfl ?_
    obtain rfl := HA0.out
    clear HA0 oe6
    simp only [pz, Act.put, List.setIfInBounds_toArray, List.set_cons_zero, List.set_cons_succ]
    have HE := hid (show gBody x s = ({ x with cm := (gCm s).1 }, (gCm s).2) by unfold gBody; rw [KK.out]; rfl)
    go_upto_region 3 with (fail)
    refine wp_region_U 98 [9, 10, 11, 101] [0, 1, 2, 3] (fun a0 HA0 => ?_)
    have oe0 := ev HA0 0 rfl
    have oe3 := ev HA0 3 rfl
    refine QSeq.pure rfl _ (fun E => ex_move rfl (E.v oe0)) ?_
    refine QSeq.call rfl rfl Try.func98 (cCm_Q _ _ _ _ Hx1.out (by intro k h1; have hb := HBR.out k h1; omega)) (fun E => args1 (E.d 0 0)) ?_
    rintro e u3_1 ⟨rfl, qrd, hm⟩
    refine ⟨_, rfl, ?_⟩
    have Hx7 := hid qrd
    have zu3_1 := hm.size
    have Cx8 := hid (show Mod (fun k => (R k)) w1 u3_1 from hm)
    clear hm
    clear qrd Hx1
    refine QSeq.pure rfl (.pointer (some ⟨w.heap.size, 3, none⟩)) (fun E => ex_field rfl Try.underlying109 rfl (by kernel_rfl) (E.v oe3)) ?_
    refine QSeq.go fun act E => ?_
    refine qc_store rfl (wanted_none rfl) rfl (HB3.out.mod Cx8.out (by intro h2; first | omega | (have hb := HBR.out _ h2; omega))) (off := 3) (vs := ((gCm s).1.cells)) (by rw [Cm.len (gCm_OK HBY.out).2.1]; kernel_rfl) (Cm_one _) (by rw [List.size_toArray, flat_sum, HLN.out]; show 3 + _ ≤ 295; rw [Cm.len (gCm_OK HBY.out).2.1]; decide) (E.d 2 0) (ec (E.d 1 1)) ?_
    intro u3_3 qc0 hm
    have qB3 := qc0.eqv (b := ((Mg.segs ({ x with cm := (gCm s).1 } : Mg) c5 c10 c11 c15 c18).flatten : List Value).toArray) ((lay_seg HLN.out 3 (by rw [Cm.len (gCm_OK HBY.out).2.1]; rfl) rfl).trans rfl)
    clear qc0
    have Hx9 := hid qB3
    have zu3_3 := hm.size
    have HMu3_3 := hid hm
    have Cx10 := hid (Mod.goS (S' := (fun k => (R k) ∨ (k = w.heap.size))) Cx8.out hm (fun _ h => Or.inl h) (by intro k h0 h2; exact Or.inr (h2)))
    clear hm Cx8
    clear act E qB3 HB3
    have Hx11 := hid (Hx7.out.mod HMu3_3.out (sB HBR))
    clear Hx7 HMu3_3
    refine QSeq.nil (t' := [_, _, _, _]) rfl ?_
    obtain rfl := HA0.out
    clear HA0 oe0 oe3
    simp only [pz, Act.put, List.setIfInBounds_toArray, List.set_cons_zero, List.set_cons_succ, List.set_nil]
    have HLZ := hid (show (Mg.segs ({ x with cm := (gCm s).1 } : Mg) c5 c10 c11 c15 c18).map List.length = mgN from Mg.lens (x := ({ x with cm := (gCm s).1 } : Mg)) { HOK.out with cm := gCm_OK HBY.out } HC5.out HC10.out HC11.out HC15.out HC18.out)
    have HSZ := hid (show ((Mg.segs ({ x with cm := (gCm s).1 } : Mg) c5 c10 c11 c15 c18).flatten).length = 295 by rw [flat_sum, HLZ.out]; rfl)
    have HRM := hid (show MgR.rd (fun k => (R2 k)) u3_3 ((Mg.segs ({ x with cm := (gCm s).1 } : Mg) c5 c10 c11 c15 c18).flatten) ({ x with cm := (gCm s).1 } : Mg) from ⟨_, _, _, _, _, rfl, { HOK.out with cm := gCm_OK HBY.out }, (Hx2.out.mod Cx10.out (by intro k h1 h2; rcases h2 with h2 | h2 <;> first | omega | (have hb := HBT.out k h1; omega) | (have hb := HBR.out k h2; omega) | exact HDJ.out k h1 h2 | exact HDJ.out k h2 h1 | (have hb := HBT.out k h1; have hb2 := HBR.out k h2; omega))), (Hx3.out.mod Cx10.out (by intro k h1 h2; rcases h2 with h2 | h2 <;> first | omega | (have hb := HBT.out k h1; omega) | (have hb := HBR.out k h2; omega) | exact HDJ.out k h1 h2 | exact HDJ.out k h2 h1 | (have hb := HBT.out k h1; have hb2 := HBR.out k h2; omega))), (Hx4.out.mod Cx10.out (by intro k h1 h2; rcases h2 with h2 | h2 <;> first | omega | (have hb := HBT.out k h1; omega) | (have hb := HBR.out k h2; omega) | exact HDJ.out k h1 h2 | exact HDJ.out k h2 h1 | (have hb := HBT.out k h1; have hb2 := HBR.out k h2; omega))), (Hx5.out.mod Cx10.out (by intro k h1 h2; rcases h2 with h2 | h2 <;> first | omega | (have hb := HBT.out k h1; omega) | (have hb := HBR.out k h2; omega) | exact HDJ.out k h1 h2 | exact HDJ.out k h2 h1 | (have hb := HBT.out k h1; have hb2 := HBR.out k h2; omega))), (Hx6.out.mod Cx10.out (by intro k h1 h2; rcases h2 with h2 | h2 <;> first | omega | (have hb := HBT.out k h1; omega) | (have hb := HBR.out k h2; omega) | exact HDJ.out k h1 h2 | exact HDJ.out k h2 h1 | (have hb := HBT.out k h1; have hb2 := HBR.out k h2; omega)))⟩)
    have HON := hid (MgR.one HRM.out)
    go_upto_region 30 with (fail)
    refine wp_region_U 98 [97, 99] [0, 1] (fun a0 HA0 => ?_)
    have oe3 := ev HA0 3 rfl
    have oe4 := ev HA0 4 rfl
    refine QSeq.pure rfl _ (fun E => ex_loadA rfl Try.underlying109 rfl (off := 0) (cs := ((Mg.segs ({ x with cm := (gCm s).1 } : Mg) c5 c10 c11 c15 c18).flatten)) (by rw [HSZ.out]; kernel_rfl) (E.v oe3) (Cs.whole Hx9.out)) ?_
    refine QSeq.go fun act E => ?_
    refine qc_store rfl (wanted_none rfl) rfl (HB4.out.mod Cx10.out (by intro h2; rcases h2 with h2 | h2 <;> first | omega | (have hb := HBR.out _ h2; omega))) (off := 0) (vs := ((Mg.segs ({ x with cm := (gCm s).1 } : Mg) c5 c10 c11 c15 c18).flatten)) (by rw [HSZ.out]; kernel_rfl) HON.out (by rw [HSZ.out]; show 0 + 295 ≤ 295; decide) (E.v oe4) (ec (E.d 0 0)) ?_
    intro u30_1 qc0 hm
    have qB4 := qc0.eqv (b := (((Mg.segs ({ x with cm := (gCm s).1 } : Mg) c5 c10 c11 c15 c18).flatten) : List Value).toArray) (lay_whole _ _ (by rw [HSZ.out]; rfl))
    clear qc0
    have Hx12 := hid qB4
    have zu30_1 := hm.size
    have Cx13 := hid (show Mod (fun k => (k = w.heap.size + 1)) u3_3 u30_1 from hm)
    clear hm
    clear act E qB4 HB4
    refine QSeq.nil (t' := [_, _]) rfl ?_
    obtain rfl := HA0.out
    clear HA0 oe3 oe4
    simp only [pz, Act.put, List.setIfInBounds_toArray, List.set_cons_zero, List.set_cons_succ, List.set_nil]
    go_wp2
    exact bodyPost_ret (results_cellA rfl _ _ (w.heap.size + 1) ((Mg.segs ({ x with cm := (gCm s).1 } : Mg) c5 c10 c11 c15 c18).flatten) rfl (fun k u hu => by rw [Hx12.out.cell]; simpa using hu) Try.underlying109 rfl (by rw [HSZ.out]; kernel_rfl)) rfl ⟨_, rfl, by rw [HE.out]; exact (HRM.out.mod Cx13.out (sB HBT)).widen (by intro k h1; first | exact Or.inl h1 | (right; omega)), by rw [HE.out]; exact (Hx11.out.mod Cx13.out (sB HBR)), ((HM0.out.trans Cx10.out (by intro k h1 h2; rcases h2 with h2 | h2 <;> first | exact h2 | omega | (have hb := HBR.out k h2; omega))).trans Cx13.out (by intro k h1 h2; first | exact h2 | omega))⟩
  have K1 := Lib.hid h1
  clear h1
  go_upto_region 2 with (fail)
  refine wp_region_U 98 [8, 7] [0, 1] (fun a0 HA0 => ?_)
  have oe6 := ev HA0 6 rfl
  refine QSeq.pure rfl (.bool false) (fun E => ex_binE rfl (E.v oe6) rfl (guard_ints _ _ _ _ _ _) (run_eql_i _ _ _ Try.underlying3) (congrArg Value.bool (eq_ff K1.out))) ?_
  refine QSeq.pure rfl _ (fun E => ex_assign rfl (E.d 0 0)) ?_
  refine QSeq.nil (t' := [_, _]) rfl ?_
  obtain rfl := HA0.out
  clear HA0 oe6
  simp only [pz, Act.put, List.setIfInBounds_toArray, List.set_cons_zero, List.set_cons_succ]
  by_cases h2 : x.kd = 2
  · have KK := Lib.hid h2
    clear h2
    go_upto_region 4 with (fail)
    refine wp_region_U 98 [13, 12] [0, 1] (fun a0 HA0 => ?_)
    have oe6 := ev HA0 6 rfl
    refine QSeq.pure rfl (.bool true) (fun E => ex_binE rfl (E.v oe6) rfl (guard_ints _ _ _ _ _ _) (run_eql_i _ _ _ Try.underlying3) (congrArg Value.bool (eq_tt KK.out))) ?_
    refine QSeq.pure rfl _ (fun E => ex_assign rfl (E.d 0 0)) ?_
    refine QSeq.nil (t' := [_, _]) rfl ?_
    obtain rfl := HA0.out
    clear HA0 oe6
    simp only [pz, Act.put, List.setIfInBounds_toArray, List.set_cons_zero, List.set_cons_succ]
    have HE := hid (show gBody x s = ({ x with st := (gSt s).1 }, (gSt s).2) by unfold gBody; rw [KK.out]; rfl)
    go_upto_region 5 with (fail)
    refine wp_region_U 98 [14, 15, 16, 101] [0, 1, 2, 3] (fun a0 HA0 => ?_)
    have oe0 := ev HA0 0 rfl
    have oe3 := ev HA0 3 rfl
    refine QSeq.pure rfl _ (fun E => ex_move rfl (E.v oe0)) ?_
    refine QSeq.call rfl rfl Try.func99 (cSt_Q _ _ _ _ Hx1.out (by intro k h1; have hb := HBR.out k h1; omega)) (fun E => args1 (E.d 0 0)) ?_
    rintro e u5_1 ⟨rfl, qrd, hm⟩
    refine ⟨_, rfl, ?_⟩
    have Hx14 := hid qrd
    have zu5_1 := hm.size
    have Cx15 := hid (show Mod (fun k => (R k)) w1 u5_1 from hm)
    clear hm
    clear qrd Hx1
    refine QSeq.pure rfl (.pointer (some ⟨w.heap.size, 40, none⟩)) (fun E => ex_field rfl Try.underlying109 rfl (by kernel_rfl) (E.v oe3)) ?_
    refine QSeq.go fun act E => ?_
    refine qc_store rfl (wanted_none rfl) rfl (HB3.out.mod Cx15.out (by intro h2; first | omega | (have hb := HBR.out _ h2; omega))) (off := 40) (vs := ((gSt s).1.cells)) (by rw [St.len (gSt_OK HBY.out)]; kernel_rfl) (St.one _) (by rw [List.size_toArray, flat_sum, HLN.out]; show 40 + _ ≤ 295; rw [St.len (gSt_OK HBY.out)]; decide) (E.d 2 0) (ec (E.d 1 1)) ?_
    intro u5_3 qc0 hm
    have qB3 := qc0.eqv (b := ((Mg.segs ({ x with st := (gSt s).1 } : Mg) c5 c10 c11 c15 c18).flatten : List Value).toArray) ((lay_seg HLN.out 4 (by rw [St.len (gSt_OK HBY.out)]; rfl) rfl).trans rfl)
    clear qc0
    have Hx16 := hid qB3
    have zu5_3 := hm.size
    have HMu5_3 := hid hm
    have Cx17 := hid (Mod.goS (S' := (fun k => (R k) ∨ (k = w.heap.size))) Cx15.out hm (fun _ h => Or.inl h) (by intro k h0 h2; exact Or.inr (h2)))
    clear hm Cx15
    clear act E qB3 HB3
    have Hx18 := hid (Hx14.out.mod HMu5_3.out (sB HBR))
    clear Hx14 HMu5_3
    refine QSeq.nil (t' := [_, _, _, _]) rfl ?_
    obtain rfl := HA0.out
    clear HA0 oe0 oe3
    simp only [pz, Act.put, List.setIfInBounds_toArray, List.set_cons_zero, List.set_cons_succ, List.set_nil]
    have HLZ := hid (show (Mg.segs ({ x with st := (gSt s).1 } : Mg) c5 c10 c11 c15 c18).map List.length = mgN from Mg.lens (x := ({ x with st := (gSt s).1 } : Mg)) { HOK.out with st := gSt_OK HBY.out } HC5.out HC10.out HC11.out HC15.out HC18.out)
    have HSZ := hid (show ((Mg.segs ({ x with st := (gSt s).1 } : Mg) c5 c10 c11 c15 c18).flatten).length = 295 by rw [flat_sum, HLZ.out]; rfl)
    have HRM := hid (show MgR.rd (fun k => (R2 k)) u5_3 ((Mg.segs ({ x with st := (gSt s).1 } : Mg) c5 c10 c11 c15 c18).flatten) ({ x with st := (gSt s).1 } : Mg) from ⟨_, _, _, _, _, rfl, { HOK.out with st := gSt_OK HBY.out }, (Hx2.out.mod Cx17.out (by intro k h1 h2; rcases h2 with h2 | h2 <;> first | omega | (have hb := HBT.out k h1; omega) | (have hb := HBR.out k h2; omega) | exact HDJ.out k h1 h2 | exact HDJ.out k h2 h1 | (have hb := HBT.out k h1; have hb2 := HBR.out k h2; omega))), (Hx3.out.mod Cx17.out (by intro k h1 h2; rcases h2 with h2 | h2 <;> first | omega | (have hb := HBT.out k h1; omega) | (have hb := HBR.out k h2; omega) | exact HDJ.out k h1 h2 | exact HDJ.out k h2 h1 | (have hb := HBT.out k h1; have hb2 := HBR.out k h2; omega))), (Hx4.out.mod Cx17.out (by intro k h1 h2; rcases h2 with h2 | h2 <;> first | omega | (have hb := HBT.out k h1; omega) | (have hb := HBR.out k h2; omega) | exact HDJ.out k h1 h2 | exact HDJ.out k h2 h1 | (have hb := HBT.out k h1; have hb2 := HBR.out k h2; omega))), (Hx5.out.mod Cx17.out (by intro k h1 h2; rcases h2 with h2 | h2 <;> first | omega | (have hb := HBT.out k h1; omega) | (have hb := HBR.out k h2; omega) | exact HDJ.out k h1 h2 | exact HDJ.out k h2 h1 | (have hb := HBT.out k h1; have hb2 := HBR.out k h2; omega))), (Hx6.out.mod Cx17.out (by intro k h1 h2; rcases h2 with h2 | h2 <;> first | omega | (have hb := HBT.out k h1; omega) | (have hb := HBR.out k h2; omega) | exact HDJ.out k h1 h2 | exact HDJ.out k h2 h1 | (have hb := HBT.out k h1; have hb2 := HBR.out k h2; omega)))⟩)
    have HON := hid (MgR.one HRM.out)
    go_upto_region 30 with (fail)
    refine wp_region_U 98 [97, 99] [0, 1] (fun a0 HA0 => ?_)
    have oe3 := ev HA0 3 rfl
    have oe4 := ev HA0 4 rfl
    refine QSeq.pure rfl _ (fun E => ex_loadA rfl Try.underlying109 rfl (off := 0) (cs := ((Mg.segs ({ x with st := (gSt s).1 } : Mg) c5 c10 c11 c15 c18).flatten)) (by rw [HSZ.out]; kernel_rfl) (E.v oe3) (Cs.whole Hx16.out)) ?_
    refine QSeq.go fun act E => ?_
    refine qc_store rfl (wanted_none rfl) rfl (HB4.out.mod Cx17.out (by intro h2; rcases h2 with h2 | h2 <;> first | omega | (have hb := HBR.out _ h2; omega))) (off := 0) (vs := ((Mg.segs ({ x with st := (gSt s).1 } : Mg) c5 c10 c11 c15 c18).flatten)) (by rw [HSZ.out]; kernel_rfl) HON.out (by rw [HSZ.out]; show 0 + 295 ≤ 295; decide) (E.v oe4) (ec (E.d 0 0)) ?_
    intro u30_1 qc0 hm
    have qB4 := qc0.eqv (b := (((Mg.segs ({ x with st := (gSt s).1 } : Mg) c5 c10 c11 c15 c18).flatten) : List Value).toArray) (lay_whole _ _ (by rw [HSZ.out]; rfl))
    clear qc0
    have Hx19 := hid qB4
    have zu30_1 := hm.size
    have Cx20 := hid (show Mod (fun k => (k = w.heap.size + 1)) u5_3 u30_1 from hm)
    clear hm
    clear act E qB4 HB4
    refine QSeq.nil (t' := [_, _]) rfl ?_
    obtain rfl := HA0.out
    clear HA0 oe3 oe4
    simp only [pz, Act.put, List.setIfInBounds_toArray, List.set_cons_zero, List.set_cons_succ, List.set_nil]
    go_wp2
    exact bodyPost_ret (results_cellA rfl _ _ (w.heap.size + 1) ((Mg.segs ({ x with st := (gSt s).1 } : Mg) c5 c10 c11 c15 c18).flatten) rfl (fun k u hu => by rw [Hx19.out.cell]; simpa using hu) Try.underlying109 rfl (by rw [HSZ.out]; kernel_rfl)) rfl ⟨_, rfl, by rw [HE.out]; exact (HRM.out.mod Cx20.out (sB HBT)).widen (by intro k h1; first | exact Or.inl h1 | (right; omega)), by rw [HE.out]; exact (Hx18.out.mod Cx20.out (sB HBR)), ((HM0.out.trans Cx17.out (by intro k h1 h2; rcases h2 with h2 | h2 <;> first | exact h2 | omega | (have hb := HBR.out k h2; omega))).trans Cx20.out (by intro k h1 h2; first | exact h2 | omega))⟩
  have K2 := Lib.hid h2
  clear h2
  go_upto_region 4 with (fail)
  refine wp_region_U 98 [13, 12] [0, 1] (fun a0 HA0 => ?_)
  have oe6 := ev HA0 6 rfl
  refine QSeq.pure rfl (.bool false) (fun E => ex_binE rfl (E.v oe6) rfl (guard_ints _ _ _ _ _ _) (run_eql_i _ _ _ Try.underlying3) (congrArg Value.bool (eq_ff K2.out))) ?_
  refine QSeq.pure rfl _ (fun E => ex_assign rfl (E.d 0 0)) ?_
  refine QSeq.nil (t' := [_, _]) rfl ?_
  obtain rfl := HA0.out
  clear HA0 oe6
  simp only [pz, Act.put, List.setIfInBounds_toArray, List.set_cons_zero, List.set_cons_succ]
  by_cases h3 : x.kd = 3
  · have KK := Lib.hid h3
    clear h3
    go_upto_region 6 with (fail)
    refine wp_region_U 98 [18, 17] [0, 1] (fun a0 HA0 => ?_)
    have oe6 := ev HA0 6 rfl
    refine QSeq.pure rfl (.bool true) (fun E => ex_binE rfl (E.v oe6) rfl (guard_ints _ _ _ _ _ _) (run_eql_i _ _ _ Try.underlying3) (congrArg Value.bool (eq_tt KK.out))) ?_
    refine QSeq.pure rfl _ (fun E => ex_assign rfl (E.d 0 0)) ?_
    refine QSeq.nil (t' := [_, _]) rfl ?_
    obtain rfl := HA0.out
    clear HA0 oe6
    simp only [pz, Act.put, List.setIfInBounds_toArray, List.set_cons_zero, List.set_cons_succ]
    have HE := hid (show gBody x s = ({ x with ce := (gCe s).1 }, (gCe s).2) by unfold gBody; rw [KK.out]; rfl)
    go_upto_region 7 with (fail)
    refine wp_region_U 98 [19, 20, 21, 101] [0, 1, 2, 3] (fun a0 HA0 => ?_)
    have oe0 := ev HA0 0 rfl
    have oe3 := ev HA0 3 rfl
    refine QSeq.pure rfl _ (fun E => ex_move rfl (E.v oe0)) ?_
    refine QSeq.call rfl rfl Try.func100 (cCe_G _ _ _ _ Hx1.out (by intro k h1; have hb := HBR.out k h1; omega) HLE.out) (fun E => args1 (E.d 0 0)) ?_
    rintro e u7_1 ⟨cn, rfl, qnw, qrd, hm⟩
    have HCN := hid (CeR.len qnw)
    have HCO := hid (CeR.one qnw)
    refine ⟨_, rfl, ?_⟩
    have Hx21 := hid qnw
    have Hx22 := hid qrd
    have zu7_1 := hm.size
    have Cx23 := hid (show Mod (fun k => (R k)) w1 u7_1 from hm)
    clear hm
    clear qnw qrd Hx1
    refine QSeq.pure rfl (.pointer (some ⟨w.heap.size, 78, none⟩)) (fun E => ex_field rfl Try.underlying109 rfl (by kernel_rfl) (E.v oe3)) ?_
    refine QSeq.go fun act E => ?_
    refine qc_store rfl (wanted_none rfl) rfl (HB3.out.mod Cx23.out (by intro h2; first | omega | (have hb := HBR.out _ h2; omega))) (off := 78) (vs := cn) (by rw [HCN.out]; kernel_rfl) HCO.out (by rw [List.size_toArray, flat_sum, HLN.out]; show 78 + _ ≤ 295; rw [HCN.out]; decide) (E.d 2 0) (ec (E.d 1 1)) ?_
    intro u7_3 qc0 hm
    have qB3 := qc0.eqv (b := ((Mg.segs ({ x with ce := (gCe s).1 } : Mg) cn c10 c11 c15 c18).flatten : List Value).toArray) ((lay_seg HLN.out 5 (by rw [HCN.out]; rfl) rfl).trans rfl)
    clear qc0
    have Hx24 := hid qB3
    have zu7_3 := hm.size
    have HMu7_3 := hid hm
    have Cx25 := hid (Mod.goS (S' := (fun k => (R k) ∨ (k = w.heap.size))) Cx23.out hm (fun _ h => Or.inl h) (by intro k h0 h2; exact Or.inr (h2)))
    clear hm Cx23
    clear act E qB3 HB3
    have Hx26 := hid (Hx22.out.mod HMu7_3.out (sB HBR))
    have Hx27 := hid (Hx21.out.mod HMu7_3.out (by intro k h1 h2; omega))
    clear Hx22 Hx21 HMu7_3
    refine QSeq.nil (t' := [_, _, _, _]) rfl ?_
    obtain rfl := HA0.out
    clear HA0 oe0 oe3
    simp only [pz, Act.put, List.setIfInBounds_toArray, List.set_cons_zero, List.set_cons_succ, List.set_nil]
    have HLZ := hid (show (Mg.segs ({ x with ce := (gCe s).1 } : Mg) cn c10 c11 c15 c18).map List.length = mgN from Mg.lens (x := ({ x with ce := (gCe s).1 } : Mg)) { HOK.out with } HCN.out HC10.out HC11.out HC15.out HC18.out)
    have HSZ := hid (show ((Mg.segs ({ x with ce := (gCe s).1 } : Mg) cn c10 c11 c15 c18).flatten).length = 295 by rw [flat_sum, HLZ.out]; rfl)
    have HRM := hid (show MgR.rd (fun k => (R2 k) ∨ (New w1 u7_1 k)) u7_3 ((Mg.segs ({ x with ce := (gCe s).1 } : Mg) cn c10 c11 c15 c18).flatten) ({ x with ce := (gCe s).1 } : Mg) from ⟨_, _, _, _, _, rfl, { HOK.out with }, (Hx27.out.widen (by intro k h1; first | omega | exact h1.elim | exact Or.inl h1 | exact Or.inr (h1))), ((Hx3.out.mod Cx25.out (by intro k h1 h2; rcases h2 with h2 | h2 <;> first | omega | (have hb := HBT.out k h1; omega) | (have hb := HBR.out k h2; omega) | exact HDJ.out k h1 h2 | exact HDJ.out k h2 h1 | (have hb := HBT.out k h1; have hb2 := HBR.out k h2; omega))).widen (by intro k h1; first | omega | exact h1.elim | exact Or.inl h1 | exact Or.inr (h1))), ((Hx4.out.mod Cx25.out (by intro k h1 h2; rcases h2 with h2 | h2 <;> first | omega | (have hb := HBT.out k h1; omega) | (have hb := HBR.out k h2; omega) | exact HDJ.out k h1 h2 | exact HDJ.out k h2 h1 | (have hb := HBT.out k h1; have hb2 := HBR.out k h2; omega))).widen (by intro k h1; first | omega | exact h1.elim | exact Or.inl h1 | exact Or.inr (h1))), ((Hx5.out.mod Cx25.out (by intro k h1 h2; rcases h2 with h2 | h2 <;> first | omega | (have hb := HBT.out k h1; omega) | (have hb := HBR.out k h2; omega) | exact HDJ.out k h1 h2 | exact HDJ.out k h2 h1 | (have hb := HBT.out k h1; have hb2 := HBR.out k h2; omega))).widen (by intro k h1; first | omega | exact h1.elim | exact Or.inl h1 | exact Or.inr (h1))), ((Hx6.out.mod Cx25.out (by intro k h1 h2; rcases h2 with h2 | h2 <;> first | omega | (have hb := HBT.out k h1; omega) | (have hb := HBR.out k h2; omega) | exact HDJ.out k h1 h2 | exact HDJ.out k h2 h1 | (have hb := HBT.out k h1; have hb2 := HBR.out k h2; omega))).widen (by intro k h1; first | omega | exact h1.elim | exact Or.inl h1 | exact Or.inr (h1)))⟩)
    have HON := hid (MgR.one HRM.out)
    go_upto_region 30 with (fail)
    refine wp_region_U 98 [97, 99] [0, 1] (fun a0 HA0 => ?_)
    have oe3 := ev HA0 3 rfl
    have oe4 := ev HA0 4 rfl
    refine QSeq.pure rfl _ (fun E => ex_loadA rfl Try.underlying109 rfl (off := 0) (cs := ((Mg.segs ({ x with ce := (gCe s).1 } : Mg) cn c10 c11 c15 c18).flatten)) (by rw [HSZ.out]; kernel_rfl) (E.v oe3) (Cs.whole Hx24.out)) ?_
    refine QSeq.go fun act E => ?_
    refine qc_store rfl (wanted_none rfl) rfl (HB4.out.mod Cx25.out (by intro h2; rcases h2 with h2 | h2 <;> first | omega | (have hb := HBR.out _ h2; omega))) (off := 0) (vs := ((Mg.segs ({ x with ce := (gCe s).1 } : Mg) cn c10 c11 c15 c18).flatten)) (by rw [HSZ.out]; kernel_rfl) HON.out (by rw [HSZ.out]; show 0 + 295 ≤ 295; decide) (E.v oe4) (ec (E.d 0 0)) ?_
    intro u30_1 qc0 hm
    have qB4 := qc0.eqv (b := (((Mg.segs ({ x with ce := (gCe s).1 } : Mg) cn c10 c11 c15 c18).flatten) : List Value).toArray) (lay_whole _ _ (by rw [HSZ.out]; rfl))
    clear qc0
    have Hx28 := hid qB4
    have zu30_1 := hm.size
    have Cx29 := hid (show Mod (fun k => (k = w.heap.size + 1)) u7_3 u30_1 from hm)
    clear hm
    clear act E qB4 HB4
    refine QSeq.nil (t' := [_, _]) rfl ?_
    obtain rfl := HA0.out
    clear HA0 oe3 oe4
    simp only [pz, Act.put, List.setIfInBounds_toArray, List.set_cons_zero, List.set_cons_succ, List.set_nil]
    go_wp2
    exact bodyPost_ret (results_cellA rfl _ _ (w.heap.size + 1) ((Mg.segs ({ x with ce := (gCe s).1 } : Mg) cn c10 c11 c15 c18).flatten) rfl (fun k u hu => by rw [Hx28.out.cell]; simpa using hu) Try.underlying109 rfl (by rw [HSZ.out]; kernel_rfl)) rfl ⟨_, rfl, by rw [HE.out]; exact (HRM.out.mod Cx29.out (by intro k h1 h2; rcases h1 with h1 | h1 <;> first | omega | (have hb := HBT.out k h1; omega))).widen (by intro k h1; rcases h1 with h1 | h1 <;> first | exact Or.inl h1 | (right; omega)), by rw [HE.out]; exact (Hx26.out.mod Cx29.out (sB HBR)), ((HM0.out.trans Cx25.out (by intro k h1 h2; rcases h2 with h2 | h2 <;> first | exact h2 | omega | (have hb := HBR.out k h2; omega))).trans Cx29.out (by intro k h1 h2; first | exact h2 | omega))⟩
  have K3 := Lib.hid h3
  clear h3
  go_upto_region 6 with (fail)
  refine wp_region_U 98 [18, 17] [0, 1] (fun a0 HA0 => ?_)
  have oe6 := ev HA0 6 rfl
  refine QSeq.pure rfl (.bool false) (fun E => ex_binE rfl (E.v oe6) rfl (guard_ints _ _ _ _ _ _) (run_eql_i _ _ _ Try.underlying3) (congrArg Value.bool (eq_ff K3.out))) ?_
  refine QSeq.pure rfl _ (fun E => ex_assign rfl (E.d 0 0)) ?_
  refine QSeq.nil (t' := [_, _]) rfl ?_
  obtain rfl := HA0.out
  clear HA0 oe6
  simp only [pz, Act.put, List.setIfInBounds_toArray, List.set_cons_zero, List.set_cons_succ]
  by_cases h4 : x.kd = 4
  · have KK := Lib.hid h4
    clear h4
    go_upto_region 8 with (fail)
    refine wp_region_U 98 [23, 22] [0, 1] (fun a0 HA0 => ?_)
    have oe6 := ev HA0 6 rfl
    refine QSeq.pure rfl (.bool true) (fun E => ex_binE rfl (E.v oe6) rfl (guard_ints _ _ _ _ _ _) (run_eql_i _ _ _ Try.underlying3) (congrArg Value.bool (eq_tt KK.out))) ?_
    refine QSeq.pure rfl _ (fun E => ex_assign rfl (E.d 0 0)) ?_
    refine QSeq.nil (t' := [_, _]) rfl ?_
    obtain rfl := HA0.out
    clear HA0 oe6
    simp only [pz, Act.put, List.setIfInBounds_toArray, List.set_cons_zero, List.set_cons_succ]
    have HE := hid (show gBody x s = ({ x with ak := (gSt s).1 }, (gSt s).2) by unfold gBody; rw [KK.out]; rfl)
    go_upto_region 9 with (fail)
    refine wp_region_U 98 [24, 25, 26, 101] [0, 1, 2, 3] (fun a0 HA0 => ?_)
    have oe0 := ev HA0 0 rfl
    have oe3 := ev HA0 3 rfl
    refine QSeq.pure rfl _ (fun E => ex_move rfl (E.v oe0)) ?_
    refine QSeq.call rfl rfl Try.func101 (cAk_Q _ _ _ _ Hx1.out (by intro k h1; have hb := HBR.out k h1; omega)) (fun E => args1 (E.d 0 0)) ?_
    rintro e u9_1 ⟨rfl, qrd, hm⟩
    refine ⟨_, rfl, ?_⟩
    have Hx30 := hid qrd
    have zu9_1 := hm.size
    have Cx31 := hid (show Mod (fun k => (R k)) w1 u9_1 from hm)
    clear hm
    clear qrd Hx1
    refine QSeq.pure rfl (.pointer (some ⟨w.heap.size, 116, none⟩)) (fun E => ex_field rfl Try.underlying109 rfl (by kernel_rfl) (E.v oe3)) ?_
    refine QSeq.go fun act E => ?_
    refine qc_store rfl (wanted_none rfl) rfl (HB3.out.mod Cx31.out (by intro h2; first | omega | (have hb := HBR.out _ h2; omega))) (off := 116) (vs := ((gSt s).1.cells)) (by rw [St.len (gSt_OK HBY.out)]; kernel_rfl) (St.one _) (by rw [List.size_toArray, flat_sum, HLN.out]; show 116 + _ ≤ 295; rw [St.len (gSt_OK HBY.out)]; decide) (E.d 2 0) (ec (E.d 1 1)) ?_
    intro u9_3 qc0 hm
    have qB3 := qc0.eqv (b := ((Mg.segs ({ x with ak := (gSt s).1 } : Mg) c5 c10 c11 c15 c18).flatten : List Value).toArray) ((lay_seg HLN.out 6 (by rw [St.len (gSt_OK HBY.out)]; rfl) rfl).trans rfl)
    clear qc0
    have Hx32 := hid qB3
    have zu9_3 := hm.size
    have HMu9_3 := hid hm
    have Cx33 := hid (Mod.goS (S' := (fun k => (R k) ∨ (k = w.heap.size))) Cx31.out hm (fun _ h => Or.inl h) (by intro k h0 h2; exact Or.inr (h2)))
    clear hm Cx31
    clear act E qB3 HB3
    have Hx34 := hid (Hx30.out.mod HMu9_3.out (sB HBR))
    clear Hx30 HMu9_3
    refine QSeq.nil (t' := [_, _, _, _]) rfl ?_
    obtain rfl := HA0.out
    clear HA0 oe0 oe3
    simp only [pz, Act.put, List.setIfInBounds_toArray, List.set_cons_zero, List.set_cons_succ, List.set_nil]
    have HLZ := hid (show (Mg.segs ({ x with ak := (gSt s).1 } : Mg) c5 c10 c11 c15 c18).map List.length = mgN from Mg.lens (x := ({ x with ak := (gSt s).1 } : Mg)) { HOK.out with ak := gSt_OK HBY.out } HC5.out HC10.out HC11.out HC15.out HC18.out)
    have HSZ := hid (show ((Mg.segs ({ x with ak := (gSt s).1 } : Mg) c5 c10 c11 c15 c18).flatten).length = 295 by rw [flat_sum, HLZ.out]; rfl)
    have HRM := hid (show MgR.rd (fun k => (R2 k)) u9_3 ((Mg.segs ({ x with ak := (gSt s).1 } : Mg) c5 c10 c11 c15 c18).flatten) ({ x with ak := (gSt s).1 } : Mg) from ⟨_, _, _, _, _, rfl, { HOK.out with ak := gSt_OK HBY.out }, (Hx2.out.mod Cx33.out (by intro k h1 h2; rcases h2 with h2 | h2 <;> first | omega | (have hb := HBT.out k h1; omega) | (have hb := HBR.out k h2; omega) | exact HDJ.out k h1 h2 | exact HDJ.out k h2 h1 | (have hb := HBT.out k h1; have hb2 := HBR.out k h2; omega))), (Hx3.out.mod Cx33.out (by intro k h1 h2; rcases h2 with h2 | h2 <;> first | omega | (have hb := HBT.out k h1; omega) | (have hb := HBR.out k h2; omega) | exact HDJ.out k h1 h2 | exact HDJ.out k h2 h1 | (have hb := HBT.out k h1; have hb2 := HBR.out k h2; omega))), (Hx4.out.mod Cx33.out (by intro k h1 h2; rcases h2 with h2 | h2 <;> first | omega | (have hb := HBT.out k h1; omega) | (have hb := HBR.out k h2; omega) | exact HDJ.out k h1 h2 | exact HDJ.out k h2 h1 | (have hb := HBT.out k h1; have hb2 := HBR.out k h2; omega))), (Hx5.out.mod Cx33.out (by intro k h1 h2; rcases h2 with h2 | h2 <;> first | omega | (have hb := HBT.out k h1; omega) | (have hb := HBR.out k h2; omega) | exact HDJ.out k h1 h2 | exact HDJ.out k h2 h1 | (have hb := HBT.out k h1; have hb2 := HBR.out k h2; omega))), (Hx6.out.mod Cx33.out (by intro k h1 h2; rcases h2 with h2 | h2 <;> first | omega | (have hb := HBT.out k h1; omega) | (have hb := HBR.out k h2; omega) | exact HDJ.out k h1 h2 | exact HDJ.out k h2 h1 | (have hb := HBT.out k h1; have hb2 := HBR.out k h2; omega)))⟩)
    have HON := hid (MgR.one HRM.out)
    go_upto_region 30 with (fail)
    refine wp_region_U 98 [97, 99] [0, 1] (fun a0 HA0 => ?_)
    have oe3 := ev HA0 3 rfl
    have oe4 := ev HA0 4 rfl
    refine QSeq.pure rfl _ (fun E => ex_loadA rfl Try.underlying109 rfl (off := 0) (cs := ((Mg.segs ({ x with ak := (gSt s).1 } : Mg) c5 c10 c11 c15 c18).flatten)) (by rw [HSZ.out]; kernel_rfl) (E.v oe3) (Cs.whole Hx32.out)) ?_
    refine QSeq.go fun act E => ?_
    refine qc_store rfl (wanted_none rfl) rfl (HB4.out.mod Cx33.out (by intro h2; rcases h2 with h2 | h2 <;> first | omega | (have hb := HBR.out _ h2; omega))) (off := 0) (vs := ((Mg.segs ({ x with ak := (gSt s).1 } : Mg) c5 c10 c11 c15 c18).flatten)) (by rw [HSZ.out]; kernel_rfl) HON.out (by rw [HSZ.out]; show 0 + 295 ≤ 295; decide) (E.v oe4) (ec (E.d 0 0)) ?_
    intro u30_1 qc0 hm
    have qB4 := qc0.eqv (b := (((Mg.segs ({ x with ak := (gSt s).1 } : Mg) c5 c10 c11 c15 c18).flatten) : List Value).toArray) (lay_whole _ _ (by rw [HSZ.out]; rfl))
    clear qc0
    have Hx35 := hid qB4
    have zu30_1 := hm.size
    have Cx36 := hid (show Mod (fun k => (k = w.heap.size + 1)) u9_3 u30_1 from hm)
    clear hm
    clear act E qB4 HB4
    refine QSeq.nil (t' := [_, _]) rfl ?_
    obtain rfl := HA0.out
    clear HA0 oe3 oe4
    simp only [pz, Act.put, List.setIfInBounds_toArray, List.set_cons_zero, List.set_cons_succ, List.set_nil]
    go_wp2
    exact bodyPost_ret (results_cellA rfl _ _ (w.heap.size + 1) ((Mg.segs ({ x with ak := (gSt s).1 } : Mg) c5 c10 c11 c15 c18).flatten) rfl (fun k u hu => by rw [Hx35.out.cell]; simpa using hu) Try.underlying109 rfl (by rw [HSZ.out]; kernel_rfl)) rfl ⟨_, rfl, by rw [HE.out]; exact (HRM.out.mod Cx36.out (sB HBT)).widen (by intro k h1; first | exact Or.inl h1 | (right; omega)), by rw [HE.out]; exact (Hx34.out.mod Cx36.out (sB HBR)), ((HM0.out.trans Cx33.out (by intro k h1 h2; rcases h2 with h2 | h2 <;> first | exact h2 | omega | (have hb := HBR.out k h2; omega))).trans Cx36.out (by intro k h1 h2; first | exact h2 | omega))⟩
  have K4 := Lib.hid h4
  clear h4
  go_upto_region 8 with (fail)
  refine wp_region_U 98 [23, 22] [0, 1] (fun a0 HA0 => ?_)
  have oe6 := ev HA0 6 rfl
  refine QSeq.pure rfl (.bool false) (fun E => ex_binE rfl (E.v oe6) rfl (guard_ints _ _ _ _ _ _) (run_eql_i _ _ _ Try.underlying3) (congrArg Value.bool (eq_ff K4.out))) ?_
  refine QSeq.pure rfl _ (fun E => ex_assign rfl (E.d 0 0)) ?_
  refine QSeq.nil (t' := [_, _]) rfl ?_
  obtain rfl := HA0.out
  clear HA0 oe6
  simp only [pz, Act.put, List.setIfInBounds_toArray, List.set_cons_zero, List.set_cons_succ]
  by_cases h5 : x.kd = 5
  · have KK := Lib.hid h5
    clear h5
    go_upto_region 10 with (fail)
    refine wp_region_U 98 [28, 27] [0, 1] (fun a0 HA0 => ?_)
    have oe6 := ev HA0 6 rfl
    refine QSeq.pure rfl (.bool true) (fun E => ex_binE rfl (E.v oe6) rfl (guard_ints _ _ _ _ _ _) (run_eql_i _ _ _ Try.underlying3) (congrArg Value.bool (eq_tt KK.out))) ?_
    refine QSeq.pure rfl _ (fun E => ex_assign rfl (E.d 0 0)) ?_
    refine QSeq.nil (t' := [_, _]) rfl ?_
    obtain rfl := HA0.out
    clear HA0 oe6
    simp only [pz, Act.put, List.setIfInBounds_toArray, List.set_cons_zero, List.set_cons_succ]
    have HE := hid (show gBody x s = ({ x with ep := (gI s).1, rn := (gI (gI s).2).1, tm := (rNum (gI (gI s).2).2).1 }, (rNum (gI (gI s).2).2).2) by unfold gBody; rw [KK.out]; rfl)
    go_upto_region 11 with (fail)
    refine wp_region_U 98 [29, 30, 31, 32, 33, 34, 35, 105, 36, 107, 37, 109] [0, 1, 2, 3, 4, 5, 6, 7, 8, 9, 10, 11] (fun a0 HA0 => ?_)
    have oe0 := ev HA0 0 rfl
    have oe3 := ev HA0 3 rfl
    refine QSeq.pure rfl _ (fun E => ex_move rfl (E.v oe0)) ?_
    refine QSeq.call rfl rfl Try.func63 (cI_Q Hx1.out) (fun E => args2 (E.d 0 0) rfl) ?_
    rintro e u11_1 ⟨rfl, qrd, hm⟩
    refine ⟨_, rfl, ?_⟩
    have Hx37 := hid qrd
    have zu11_1 := hm.size
    have Cx38 := hid (show Mod (fun k => (R k)) w1 u11_1 from hm)
    clear hm
    clear qrd Hx1
    refine QSeq.pure rfl _ (fun E => ex_move rfl (E.v oe0)) ?_
    refine QSeq.call rfl rfl Try.func63 (cI_Q Hx37.out) (fun E => args2 (E.d 2 0) rfl) ?_
    rintro e u11_3 ⟨rfl, qrd, hm⟩
    refine ⟨_, rfl, ?_⟩
    have Hx39 := hid qrd
    have zu11_3 := hm.size
    have HMu11_3 := hid hm
    have Cx40 := hid (Mod.goS (S' := (fun k => (R k))) Cx38.out hm (fun _ h => h) (by intro k h0 h2; exact h2))
    clear hm Cx38
    clear qrd Hx37
    refine QSeq.pure rfl _ (fun E => ex_move rfl (E.v oe0)) ?_
    refine QSeq.call rfl rfl Try.func102 (RNum_R Hx39.out) (fun E => args1 (E.d 4 0)) ?_
    rintro e u11_5 ⟨rfl, qrd, hm⟩
    refine ⟨_, rfl, ?_⟩
    have Hx41 := hid qrd
    have zu11_5 := hm.size
    have HMu11_5 := hid hm
    have Cx42 := hid (Mod.goS (S' := (fun k => (R k))) Cx40.out hm (fun _ h => h) (by intro k h0 h2; exact h2))
    clear hm Cx40
    clear qrd Hx39
    refine QSeq.pure rfl (.pointer (some ⟨w.heap.size, 154, none⟩)) (fun E => ex_field rfl Try.underlying109 rfl (by kernel_rfl) (E.v oe3)) ?_
    refine QSeq.go fun act E => ?_
    refine qc_store rfl (wanted_none rfl) rfl (HB3.out.mod Cx42.out (by intro h2; first | omega | (have hb := HBR.out _ h2; omega))) (off := 154) (vs := [Value.int .i64 (gI s).1]) (by kernel_rfl) one1 (by rw [List.size_toArray, flat_sum, HLN.out]; show 154 + 1 ≤ 295; decide) (E.d 6 0) (ec (E.d 1 5)) ?_
    intro u11_7 qc0 hm
    have qB3 := qc0.eqv (b := ((Mg.segs ({ x with ep := (gI s).1 } : Mg) c5 c10 c11 c15 c18).flatten : List Value).toArray) ((lay_seg HLN.out 7 (rfl) rfl).trans rfl)
    clear qc0
    have Hx43 := hid qB3
    have zu11_7 := hm.size
    have HMu11_7 := hid hm
    have Cx44 := hid (Mod.goS (S' := (fun k => (R k) ∨ (k = w.heap.size))) Cx42.out hm (fun _ h => Or.inl h) (by intro k h0 h2; exact Or.inr (h2)))
    clear hm Cx42
    clear act E qB3 HB3
    refine QSeq.pure rfl (.pointer (some ⟨w.heap.size, 155, none⟩)) (fun E => ex_field rfl Try.underlying109 rfl (by kernel_rfl) (E.v oe3)) ?_
    refine QSeq.go fun act E => ?_
    refine qc_store rfl (wanted_none rfl) rfl Hx43.out (off := 155) (vs := [Value.int .i64 (gI (gI s).2).1]) (by kernel_rfl) one1 (by rw [List.size_toArray, flat_sum, (show (Mg.segs ({ x with ep := (gI s).1 } : Mg) c5 c10 c11 c15 c18).map List.length = mgN from HLN.out)]; show 155 + 1 ≤ 295; decide) (E.d 8 0) (ec (E.d 3 5)) ?_
    intro u11_9 qc0 hm
    have qB3 := qc0.eqv (b := ((Mg.segs ({ x with ep := (gI s).1, rn := (gI (gI s).2).1 } : Mg) c5 c10 c11 c15 c18).flatten : List Value).toArray) ((lay_seg (show (Mg.segs ({ x with ep := (gI s).1 } : Mg) c5 c10 c11 c15 c18).map List.length = mgN from HLN.out) 8 (rfl) rfl).trans rfl)
    clear qc0
    have Hx45 := hid qB3
    have zu11_9 := hm.size
    have HMu11_9 := hid hm
    have Cx46 := hid (Mod.goS (S' := (fun k => (R k) ∨ (k = w.heap.size))) Cx44.out hm (fun _ h => h) (by intro k h0 h2; exact Or.inr (h2)))
    clear hm Cx44
    clear act E qB3 Hx43
    refine QSeq.pure rfl (.pointer (some ⟨w.heap.size, 156, none⟩)) (fun E => ex_field rfl Try.underlying109 rfl (by kernel_rfl) (E.v oe3)) ?_
    refine QSeq.go fun act E => ?_
    refine qc_store rfl (wanted_none rfl) rfl Hx45.out (off := 156) (vs := [Value.int .u64 ((rNum (gI (gI s).2).2).1 : Nat)]) (by kernel_rfl) one1 (by rw [List.size_toArray, flat_sum, (show (Mg.segs ({ x with ep := (gI s).1, rn := (gI (gI s).2).1 } : Mg) c5 c10 c11 c15 c18).map List.length = mgN from HLN.out)]; show 156 + 1 ≤ 295; decide) (E.d 10 0) (ec (E.d 5 5)) ?_
    intro u11_11 qc0 hm
    have qB3 := qc0.eqv (b := ((Mg.segs ({ x with ep := (gI s).1, rn := (gI (gI s).2).1, tm := (rNum (gI (gI s).2).2).1 } : Mg) c5 c10 c11 c15 c18).flatten : List Value).toArray) ((lay_seg (show (Mg.segs ({ x with ep := (gI s).1, rn := (gI (gI s).2).1 } : Mg) c5 c10 c11 c15 c18).map List.length = mgN from HLN.out) 9 (rfl) rfl).trans rfl)
    clear qc0
    have Hx47 := hid qB3
    have zu11_11 := hm.size
    have HMu11_11 := hid hm
    have Cx48 := hid (Mod.goS (S' := (fun k => (R k) ∨ (k = w.heap.size))) Cx46.out hm (fun _ h => h) (by intro k h0 h2; exact Or.inr (h2)))
    clear hm Cx46
    clear act E qB3 Hx45
    have Hx49 := hid (((Hx41.out.mod HMu11_7.out (sB HBR)).mod HMu11_9.out (sB HBR)).mod HMu11_11.out (sB HBR))
    clear Hx41 HMu11_3 HMu11_5 HMu11_7 HMu11_9 HMu11_11
    refine QSeq.nil (t' := [_, _, _, _, _, _, _, _, _, _, _, _]) rfl ?_
    obtain rfl := HA0.out
    clear HA0 oe0 oe3
    simp only [pz, Act.put, List.setIfInBounds_toArray, List.set_cons_zero, List.set_cons_succ, List.set_nil]
    have HLZ := hid (show (Mg.segs ({ x with ep := (gI s).1, rn := (gI (gI s).2).1, tm := (rNum (gI (gI s).2).2).1 } : Mg) c5 c10 c11 c15 c18).map List.length = mgN from Mg.lens (x := ({ x with ep := (gI s).1, rn := (gI (gI s).2).1, tm := (rNum (gI (gI s).2).2).1 } : Mg)) { HOK.out with ep := gI_I64 _, rn := gI_I64 _, tm := rNum_lt (gI_suf.bytes (gI_suf.bytes HBY.out)) } HC5.out HC10.out HC11.out HC15.out HC18.out)
    have HSZ := hid (show ((Mg.segs ({ x with ep := (gI s).1, rn := (gI (gI s).2).1, tm := (rNum (gI (gI s).2).2).1 } : Mg) c5 c10 c11 c15 c18).flatten).length = 295 by rw [flat_sum, HLZ.out]; rfl)
    have HRM := hid (show MgR.rd (fun k => (R2 k)) u11_11 ((Mg.segs ({ x with ep := (gI s).1, rn := (gI (gI s).2).1, tm := (rNum (gI (gI s).2).2).1 } : Mg) c5 c10 c11 c15 c18).flatten) ({ x with ep := (gI s).1, rn := (gI (gI s).2).1, tm := (rNum (gI (gI s).2).2).1 } : Mg) from ⟨_, _, _, _, _, rfl, { HOK.out with ep := gI_I64 _, rn := gI_I64 _, tm := rNum_lt (gI_suf.bytes (gI_suf.bytes HBY.out)) }, (Hx2.out.mod Cx48.out (by intro k h1 h2; rcases h2 with h2 | h2 <;> first | omega | (have hb := HBT.out k h1; omega) | (have hb := HBR.out k h2; omega) | exact HDJ.out k h1 h2 | exact HDJ.out k h2 h1 | (have hb := HBT.out k h1; have hb2 := HBR.out k h2; omega))), (Hx3.out.mod Cx48.out (by intro k h1 h2; rcases h2 with h2 | h2 <;> first | omega | (have hb := HBT.out k h1; omega) | (have hb := HBR.out k h2; omega) | exact HDJ.out k h1 h2 | exact HDJ.out k h2 h1 | (have hb := HBT.out k h1; have hb2 := HBR.out k h2; omega))), (Hx4.out.mod Cx48.out (by intro k h1 h2; rcases h2 with h2 | h2 <;> first | omega | (have hb := HBT.out k h1; omega) | (have hb := HBR.out k h2; omega) | exact HDJ.out k h1 h2 | exact HDJ.out k h2 h1 | (have hb := HBT.out k h1; have hb2 := HBR.out k h2; omega))), (Hx5.out.mod Cx48.out (by intro k h1 h2; rcases h2 with h2 | h2 <;> first | omega | (have hb := HBT.out k h1; omega) | (have hb := HBR.out k h2; omega) | exact HDJ.out k h1 h2 | exact HDJ.out k h2 h1 | (have hb := HBT.out k h1; have hb2 := HBR.out k h2; omega))), (Hx6.out.mod Cx48.out (by intro k h1 h2; rcases h2 with h2 | h2 <;> first | omega | (have hb := HBT.out k h1; omega) | (have hb := HBR.out k h2; omega) | exact HDJ.out k h1 h2 | exact HDJ.out k h2 h1 | (have hb := HBT.out k h1; have hb2 := HBR.out k h2; omega)))⟩)
    have HON := hid (MgR.one HRM.out)
    go_upto_region 30 with (fail)
    refine wp_region_U 98 [97, 99] [0, 1] (fun a0 HA0 => ?_)
    have oe3 := ev HA0 3 rfl
    have oe4 := ev HA0 4 rfl
    refine QSeq.pure rfl _ (fun E => ex_loadA rfl Try.underlying109 rfl (off := 0) (cs := ((Mg.segs ({ x with ep := (gI s).1, rn := (gI (gI s).2).1, tm := (rNum (gI (gI s).2).2).1 } : Mg) c5 c10 c11 c15 c18).flatten)) (by rw [HSZ.out]; kernel_rfl) (E.v oe3) (Cs.whole Hx47.out)) ?_
    refine QSeq.go fun act E => ?_
    refine qc_store rfl (wanted_none rfl) rfl (HB4.out.mod Cx48.out (by intro h2; rcases h2 with h2 | h2 <;> first | omega | (have hb := HBR.out _ h2; omega))) (off := 0) (vs := ((Mg.segs ({ x with ep := (gI s).1, rn := (gI (gI s).2).1, tm := (rNum (gI (gI s).2).2).1 } : Mg) c5 c10 c11 c15 c18).flatten)) (by rw [HSZ.out]; kernel_rfl) HON.out (by rw [HSZ.out]; show 0 + 295 ≤ 295; decide) (E.v oe4) (ec (E.d 0 0)) ?_
    intro u30_1 qc0 hm
    have qB4 := qc0.eqv (b := (((Mg.segs ({ x with ep := (gI s).1, rn := (gI (gI s).2).1, tm := (rNum (gI (gI s).2).2).1 } : Mg) c5 c10 c11 c15 c18).flatten) : List Value).toArray) (lay_whole _ _ (by rw [HSZ.out]; rfl))
    clear qc0
    have Hx50 := hid qB4
    have zu30_1 := hm.size
    have Cx51 := hid (show Mod (fun k => (k = w.heap.size + 1)) u11_11 u30_1 from hm)
    clear hm
    clear act E qB4 HB4
    refine QSeq.nil (t' := [_, _]) rfl ?_
    obtain rfl := HA0.out
    clear HA0 oe3 oe4
    simp only [pz, Act.put, List.setIfInBounds_toArray, List.set_cons_zero, List.set_cons_succ, List.set_nil]
    go_wp2
    exact bodyPost_ret (results_cellA rfl _ _ (w.heap.size + 1) ((Mg.segs ({ x with ep := (gI s).1, rn := (gI (gI s).2).1, tm := (rNum (gI (gI s).2).2).1 } : Mg) c5 c10 c11 c15 c18).flatten) rfl (fun k u hu => by rw [Hx50.out.cell]; simpa using hu) Try.underlying109 rfl (by rw [HSZ.out]; kernel_rfl)) rfl ⟨_, rfl, by rw [HE.out]; exact (HRM.out.mod Cx51.out (sB HBT)).widen (by intro k h1; first | exact Or.inl h1 | (right; omega)), by rw [HE.out]; exact (Hx49.out.mod Cx51.out (sB HBR)), ((HM0.out.trans Cx48.out (by intro k h1 h2; rcases h2 with h2 | h2 <;> first | exact h2 | omega | (have hb := HBR.out k h2; omega))).trans Cx51.out (by intro k h1 h2; first | exact h2 | omega))⟩
  have K5 := Lib.hid h5
  clear h5
  go_upto_region 10 with (fail)
  refine wp_region_U 98 [28, 27] [0, 1] (fun a0 HA0 => ?_)
  have oe6 := ev HA0 6 rfl
  refine QSeq.pure rfl (.bool false) (fun E => ex_binE rfl (E.v oe6) rfl (guard_ints _ _ _ _ _ _) (run_eql_i _ _ _ Try.underlying3) (congrArg Value.bool (eq_ff K5.out))) ?_
  refine QSeq.pure rfl _ (fun E => ex_assign rfl (E.d 0 0)) ?_
  refine QSeq.nil (t' := [_, _]) rfl ?_
  obtain rfl := HA0.out
  clear HA0 oe6
  simp only [pz, Act.put, List.setIfInBounds_toArray, List.set_cons_zero, List.set_cons_succ]
  by_cases h6 : x.kd = 6
  · have KK := Lib.hid h6
    clear h6
    go_upto_region 12 with (fail)
    refine wp_region_U 98 [39, 38] [0, 1] (fun a0 HA0 => ?_)
    have oe6 := ev HA0 6 rfl
    refine QSeq.pure rfl (.bool true) (fun E => ex_binE rfl (E.v oe6) rfl (guard_ints _ _ _ _ _ _) (run_eql_i _ _ _ Try.underlying3) (congrArg Value.bool (eq_tt KK.out))) ?_
    refine QSeq.pure rfl _ (fun E => ex_assign rfl (E.d 0 0)) ?_
    refine QSeq.nil (t' := [_, _]) rfl ?_
    obtain rfl := HA0.out
    clear HA0 oe6
    simp only [pz, Act.put, List.setIfInBounds_toArray, List.set_cons_zero, List.set_cons_succ]
    have HE := hid (show gBody x s = ({ x with pm := (gPm s).1 }, (gPm s).2) by unfold gBody; rw [KK.out]; rfl)
    go_upto_region 13 with (fail)
    refine wp_region_U 98 [40, 41, 42, 101] [0, 1, 2, 3] (fun a0 HA0 => ?_)
    have oe0 := ev HA0 0 rfl
    have oe3 := ev HA0 3 rfl
    refine QSeq.pure rfl _ (fun E => ex_move rfl (E.v oe0)) ?_
    refine QSeq.call rfl rfl Try.func103 (cPm_G _ _ _ _ Hx1.out (by intro k h1; have hb := HBR.out k h1; omega) HLE.out) (fun E => args1 (E.d 0 0)) ?_
    rintro e u13_1 ⟨cn, rfl, qnw, qrd, hm⟩
    have HCN := hid (PmR.len qnw)
    have HCO := hid (PmR.one qnw)
    refine ⟨_, rfl, ?_⟩
    have Hx52 := hid qnw
    have Hx53 := hid qrd
    have zu13_1 := hm.size
    have Cx54 := hid (show Mod (fun k => (R k)) w1 u13_1 from hm)
    clear hm
    clear qnw qrd Hx1
    refine QSeq.pure rfl (.pointer (some ⟨w.heap.size, 157, none⟩)) (fun E => ex_field rfl Try.underlying109 rfl (by kernel_rfl) (E.v oe3)) ?_
    refine QSeq.go fun act E => ?_
    refine qc_store rfl (wanted_none rfl) rfl (HB3.out.mod Cx54.out (by intro h2; first | omega | (have hb := HBR.out _ h2; omega))) (off := 157) (vs := cn) (by rw [HCN.out]; kernel_rfl) HCO.out (by rw [List.size_toArray, flat_sum, HLN.out]; show 157 + _ ≤ 295; rw [HCN.out]; decide) (E.d 2 0) (ec (E.d 1 1)) ?_
    intro u13_3 qc0 hm
    have qB3 := qc0.eqv (b := ((Mg.segs ({ x with pm := (gPm s).1 } : Mg) c5 cn c11 c15 c18).flatten : List Value).toArray) ((lay_seg HLN.out 10 (by rw [HCN.out]; rfl) rfl).trans rfl)
    clear qc0
    have Hx55 := hid qB3
    have zu13_3 := hm.size
    have HMu13_3 := hid hm
    have Cx56 := hid (Mod.goS (S' := (fun k => (R k) ∨ (k = w.heap.size))) Cx54.out hm (fun _ h => Or.inl h) (by intro k h0 h2; exact Or.inr (h2)))
    clear hm Cx54
    clear act E qB3 HB3
    have Hx57 := hid (Hx53.out.mod HMu13_3.out (sB HBR))
    have Hx58 := hid (Hx52.out.mod HMu13_3.out (by intro k h1 h2; omega))
    clear Hx53 Hx52 HMu13_3
    refine QSeq.nil (t' := [_, _, _, _]) rfl ?_
    obtain rfl := HA0.out
    clear HA0 oe0 oe3
    simp only [pz, Act.put, List.setIfInBounds_toArray, List.set_cons_zero, List.set_cons_succ, List.set_nil]
    have HLZ := hid (show (Mg.segs ({ x with pm := (gPm s).1 } : Mg) c5 cn c11 c15 c18).map List.length = mgN from Mg.lens (x := ({ x with pm := (gPm s).1 } : Mg)) { HOK.out with } HC5.out HCN.out HC11.out HC15.out HC18.out)
    have HSZ := hid (show ((Mg.segs ({ x with pm := (gPm s).1 } : Mg) c5 cn c11 c15 c18).flatten).length = 295 by rw [flat_sum, HLZ.out]; rfl)
    have HRM := hid (show MgR.rd (fun k => (R2 k) ∨ (New w1 u13_1 k)) u13_3 ((Mg.segs ({ x with pm := (gPm s).1 } : Mg) c5 cn c11 c15 c18).flatten) ({ x with pm := (gPm s).1 } : Mg) from ⟨_, _, _, _, _, rfl, { HOK.out with }, ((Hx2.out.mod Cx56.out (by intro k h1 h2; rcases h2 with h2 | h2 <;> first | omega | (have hb := HBT.out k h1; omega) | (have hb := HBR.out k h2; omega) | exact HDJ.out k h1 h2 | exact HDJ.out k h2 h1 | (have hb := HBT.out k h1; have hb2 := HBR.out k h2; omega))).widen (by intro k h1; first | omega | exact h1.elim | exact Or.inl h1 | exact Or.inr (h1))), (Hx58.out.widen (by intro k h1; first | omega | exact h1.elim | exact Or.inl h1 | exact Or.inr (h1))), ((Hx4.out.mod Cx56.out (by intro k h1 h2; rcases h2 with h2 | h2 <;> first | omega | (have hb := HBT.out k h1; omega) | (have hb := HBR.out k h2; omega) | exact HDJ.out k h1 h2 | exact HDJ.out k h2 h1 | (have hb := HBT.out k h1; have hb2 := HBR.out k h2; omega))).widen (by intro k h1; first | omega | exact h1.elim | exact Or.inl h1 | exact Or.inr (h1))), ((Hx5.out.mod Cx56.out (by intro k h1 h2; rcases h2 with h2 | h2 <;> first | omega | (have hb := HBT.out k h1; omega) | (have hb := HBR.out k h2; omega) | exact HDJ.out k h1 h2 | exact HDJ.out k h2 h1 | (have hb := HBT.out k h1; have hb2 := HBR.out k h2; omega))).widen (by intro k h1; first | omega | exact h1.elim | exact Or.inl h1 | exact Or.inr (h1))), ((Hx6.out.mod Cx56.out (by intro k h1 h2; rcases h2 with h2 | h2 <;> first | omega | (have hb := HBT.out k h1; omega) | (have hb := HBR.out k h2; omega) | exact HDJ.out k h1 h2 | exact HDJ.out k h2 h1 | (have hb := HBT.out k h1; have hb2 := HBR.out k h2; omega))).widen (by intro k h1; first | omega | exact h1.elim | exact Or.inl h1 | exact Or.inr (h1)))⟩)
    have HON := hid (MgR.one HRM.out)
    go_upto_region 30 with (fail)
    refine wp_region_U 98 [97, 99] [0, 1] (fun a0 HA0 => ?_)
    have oe3 := ev HA0 3 rfl
    have oe4 := ev HA0 4 rfl
    refine QSeq.pure rfl _ (fun E => ex_loadA rfl Try.underlying109 rfl (off := 0) (cs := ((Mg.segs ({ x with pm := (gPm s).1 } : Mg) c5 cn c11 c15 c18).flatten)) (by rw [HSZ.out]; kernel_rfl) (E.v oe3) (Cs.whole Hx55.out)) ?_
    refine QSeq.go fun act E => ?_
    refine qc_store rfl (wanted_none rfl) rfl (HB4.out.mod Cx56.out (by intro h2; rcases h2 with h2 | h2 <;> first | omega | (have hb := HBR.out _ h2; omega))) (off := 0) (vs := ((Mg.segs ({ x with pm := (gPm s).1 } : Mg) c5 cn c11 c15 c18).flatten)) (by rw [HSZ.out]; kernel_rfl) HON.out (by rw [HSZ.out]; show 0 + 295 ≤ 295; decide) (E.v oe4) (ec (E.d 0 0)) ?_
    intro u30_1 qc0 hm
    have qB4 := qc0.eqv (b := (((Mg.segs ({ x with pm := (gPm s).1 } : Mg) c5 cn c11 c15 c18).flatten) : List Value).toArray) (lay_whole _ _ (by rw [HSZ.out]; rfl))
    clear qc0
    have Hx59 := hid qB4
    have zu30_1 := hm.size
    have Cx60 := hid (show Mod (fun k => (k = w.heap.size + 1)) u13_3 u30_1 from hm)
    clear hm
    clear act E qB4 HB4
    refine QSeq.nil (t' := [_, _]) rfl ?_
    obtain rfl := HA0.out
    clear HA0 oe3 oe4
    simp only [pz, Act.put, List.setIfInBounds_toArray, List.set_cons_zero, List.set_cons_succ, List.set_nil]
    go_wp2
    exact bodyPost_ret (results_cellA rfl _ _ (w.heap.size + 1) ((Mg.segs ({ x with pm := (gPm s).1 } : Mg) c5 cn c11 c15 c18).flatten) rfl (fun k u hu => by rw [Hx59.out.cell]; simpa using hu) Try.underlying109 rfl (by rw [HSZ.out]; kernel_rfl)) rfl ⟨_, rfl, by rw [HE.out]; exact (HRM.out.mod Cx60.out (by intro k h1 h2; rcases h1 with h1 | h1 <;> first | omega | (have hb := HBT.out k h1; omega))).widen (by intro k h1; rcases h1 with h1 | h1 <;> first | exact Or.inl h1 | (right; omega)), by rw [HE.out]; exact (Hx57.out.mod Cx60.out (sB HBR)), ((HM0.out.trans Cx56.out (by intro k h1 h2; rcases h2 with h2 | h2 <;> first | exact h2 | omega | (have hb := HBR.out k h2; omega))).trans Cx60.out (by intro k h1 h2; first | exact h2 | omega))⟩
  have K6 := Lib.hid h6
  clear h6
  go_upto_region 12 with (fail)
  refine wp_region_U 98 [39, 38] [0, 1] (fun a0 HA0 => ?_)
  have oe6 := ev HA0 6 rfl
  refine QSeq.pure rfl (.bool false) (fun E => ex_binE rfl (E.v oe6) rfl (guard_ints _ _ _ _ _ _) (run_eql_i _ _ _ Try.underlying3) (congrArg Value.bool (eq_ff K6.out))) ?_
  refine QSeq.pure rfl _ (fun E => ex_assign rfl (E.d 0 0)) ?_
  refine QSeq.nil (t' := [_, _]) rfl ?_
  obtain rfl := HA0.out
  clear HA0 oe6
  simp only [pz, Act.put, List.setIfInBounds_toArray, List.set_cons_zero, List.set_cons_succ]
  by_cases h7 : x.kd = 7
  · have KK := Lib.hid h7
    clear h7
    go_upto_region 14 with (fail)
    refine wp_region_U 98 [44, 43] [0, 1] (fun a0 HA0 => ?_)
    have oe6 := ev HA0 6 rfl
    refine QSeq.pure rfl (.bool true) (fun E => ex_binE rfl (E.v oe6) rfl (guard_ints _ _ _ _ _ _) (run_eql_i _ _ _ Try.underlying3) (congrArg Value.bool (eq_tt KK.out))) ?_
    refine QSeq.pure rfl _ (fun E => ex_assign rfl (E.d 0 0)) ?_
    refine QSeq.nil (t' := [_, _]) rfl ?_
    obtain rfl := HA0.out
    clear HA0 oe6
    simp only [pz, Act.put, List.setIfInBounds_toArray, List.set_cons_zero, List.set_cons_succ]
    have HE := hid (show gBody x s = ({ x with pr := (gPr s).1 }, (gPr s).2) by unfold gBody; rw [KK.out]; rfl)
    go_upto_region 15 with (fail)
    refine wp_region_U 98 [45, 46, 47, 101] [0, 1, 2, 3] (fun a0 HA0 => ?_)
    have oe0 := ev HA0 0 rfl
    have oe3 := ev HA0 3 rfl
    refine QSeq.pure rfl _ (fun E => ex_move rfl (E.v oe0)) ?_
    refine QSeq.call rfl rfl Try.func104 (cPr_G _ _ _ _ Hx1.out (by intro k h1; have hb := HBR.out k h1; omega) HLE.out) (fun E => args1 (E.d 0 0)) ?_
    rintro e u15_1 ⟨cn, rfl, qnw, qrd, hm⟩
    have HCN := hid (PrR.len qnw)
    have HCO := hid (PrR.one qnw)
    refine ⟨_, rfl, ?_⟩
    have Hx61 := hid qnw
    have Hx62 := hid qrd
    have zu15_1 := hm.size
    have Cx63 := hid (show Mod (fun k => (R k)) w1 u15_1 from hm)
    clear hm
    clear qnw qrd Hx1
    refine QSeq.pure rfl (.pointer (some ⟨w.heap.size, 163, none⟩)) (fun E => ex_field rfl Try.underlying109 rfl (by kernel_rfl) (E.v oe3)) ?_
    refine QSeq.go fun act E => ?_
    refine qc_store rfl (wanted_none rfl) rfl (HB3.out.mod Cx63.out (by intro h2; first | omega | (have hb := HBR.out _ h2; omega))) (off := 163) (vs := cn) (by rw [HCN.out]; kernel_rfl) HCO.out (by rw [List.size_toArray, flat_sum, HLN.out]; show 163 + _ ≤ 295; rw [HCN.out]; decide) (E.d 2 0) (ec (E.d 1 1)) ?_
    intro u15_3 qc0 hm
    have qB3 := qc0.eqv (b := ((Mg.segs ({ x with pr := (gPr s).1 } : Mg) c5 c10 cn c15 c18).flatten : List Value).toArray) ((lay_seg HLN.out 11 (by rw [HCN.out]; rfl) rfl).trans rfl)
    clear qc0
    have Hx64 := hid qB3
    have zu15_3 := hm.size
    have HMu15_3 := hid hm
    have Cx65 := hid (Mod.goS (S' := (fun k => (R k) ∨ (k = w.heap.size))) Cx63.out hm (fun _ h => Or.inl h) (by intro k h0 h2; exact Or.inr (h2)))
    clear hm Cx63
    clear act E qB3 HB3
    have Hx66 := hid (Hx62.out.mod HMu15_3.out (sB HBR))
    have Hx67 := hid (Hx61.out.mod HMu15_3.out (by intro k h1 h2; omega))
    clear Hx62 Hx61 HMu15_3
    refine QSeq.nil (t' := [_, _, _, _]) rfl ?_
    obtain rfl := HA0.out
    clear HA0 oe0 oe3
    simp only [pz, Act.put, List.setIfInBounds_toArray, List.set_cons_zero, List.set_cons_succ, List.set_nil]
    have HLZ := hid (show (Mg.segs ({ x with pr := (gPr s).1 } : Mg) c5 c10 cn c15 c18).map List.length = mgN from Mg.lens (x := ({ x with pr := (gPr s).1 } : Mg)) { HOK.out with } HC5.out HC10.out HCN.out HC15.out HC18.out)
    have HSZ := hid (show ((Mg.segs ({ x with pr := (gPr s).1 } : Mg) c5 c10 cn c15 c18).flatten).length = 295 by rw [flat_sum, HLZ.out]; rfl)
    have HRM := hid (show MgR.rd (fun k => (R2 k) ∨ (New w1 u15_1 k)) u15_3 ((Mg.segs ({ x with pr := (gPr s).1 } : Mg) c5 c10 cn c15 c18).flatten) ({ x with pr := (gPr s).1 } : Mg) from ⟨_, _, _, _, _, rfl, { HOK.out with }, ((Hx2.out.mod Cx65.out (by intro k h1 h2; rcases h2 with h2 | h2 <;> first | omega | (have hb := HBT.out k h1; omega) | (have hb := HBR.out k h2; omega) | exact HDJ.out k h1 h2 | exact HDJ.out k h2 h1 | (have hb := HBT.out k h1; have hb2 := HBR.out k h2; omega))).widen (by intro k h1; first | omega | exact h1.elim | exact Or.inl h1 | exact Or.inr (h1))), ((Hx3.out.mod Cx65.out (by intro k h1 h2; rcases h2 with h2 | h2 <;> first | omega | (have hb := HBT.out k h1; omega) | (have hb := HBR.out k h2; omega) | exact HDJ.out k h1 h2 | exact HDJ.out k h2 h1 | (have hb := HBT.out k h1; have hb2 := HBR.out k h2; omega))).widen (by intro k h1; first | omega | exact h1.elim | exact Or.inl h1 | exact Or.inr (h1))), (Hx67.out.widen (by intro k h1; first | omega | exact h1.elim | exact Or.inl h1 | exact Or.inr (h1))), ((Hx5.out.mod Cx65.out (by intro k h1 h2; rcases h2 with h2 | h2 <;> first | omega | (have hb := HBT.out k h1; omega) | (have hb := HBR.out k h2; omega) | exact HDJ.out k h1 h2 | exact HDJ.out k h2 h1 | (have hb := HBT.out k h1; have hb2 := HBR.out k h2; omega))).widen (by intro k h1; first | omega | exact h1.elim | exact Or.inl h1 | exact Or.inr (h1))), ((Hx6.out.mod Cx65.out (by intro k h1 h2; rcases h2 with h2 | h2 <;> first | omega | (have hb := HBT.out k h1; omega) | (have hb := HBR.out k h2; omega) | exact HDJ.out k h1 h2 | exact HDJ.out k h2 h1 | (have hb := HBT.out k h1; have hb2 := HBR.out k h2; omega))).widen (by intro k h1; first | omega | exact h1.elim | exact Or.inl h1 | exact Or.inr (h1)))⟩)
    have HON := hid (MgR.one HRM.out)
    go_upto_region 30 with (fail)
    refine wp_region_U 98 [97, 99] [0, 1] (fun a0 HA0 => ?_)
    have oe3 := ev HA0 3 rfl
    have oe4 := ev HA0 4 rfl
    refine QSeq.pure rfl _ (fun E => ex_loadA rfl Try.underlying109 rfl (off := 0) (cs := ((Mg.segs ({ x with pr := (gPr s).1 } : Mg) c5 c10 cn c15 c18).flatten)) (by rw [HSZ.out]; kernel_rfl) (E.v oe3) (Cs.whole Hx64.out)) ?_
    refine QSeq.go fun act E => ?_
    refine qc_store rfl (wanted_none rfl) rfl (HB4.out.mod Cx65.out (by intro h2; rcases h2 with h2 | h2 <;> first | omega | (have hb := HBR.out _ h2; omega))) (off := 0) (vs := ((Mg.segs ({ x with pr := (gPr s).1 } : Mg) c5 c10 cn c15 c18).flatten)) (by rw [HSZ.out]; kernel_rfl) HON.out (by rw [HSZ.out]; show 0 + 295 ≤ 295; decide) (E.v oe4) (ec (E.d 0 0)) ?_
    intro u30_1 qc0 hm
    have qB4 := qc0.eqv (b := (((Mg.segs ({ x with pr := (gPr s).1 } : Mg) c5 c10 cn c15 c18).flatten) : List Value).toArray) (lay_whole _ _ (by rw [HSZ.out]; rfl))
    clear qc0
    have Hx68 := hid qB4
    have zu30_1 := hm.size
    have Cx69 := hid (show Mod (fun k => (k = w.heap.size + 1)) u15_3 u30_1 from hm)
    clear hm
    clear act E qB4 HB4
    refine QSeq.nil (t' := [_, _]) rfl ?_
    obtain rfl := HA0.out
    clear HA0 oe3 oe4
    simp only [pz, Act.put, List.setIfInBounds_toArray, List.set_cons_zero, List.set_cons_succ, List.set_nil]
    go_wp2
    exact bodyPost_ret (results_cellA rfl _ _ (w.heap.size + 1) ((Mg.segs ({ x with pr := (gPr s).1 } : Mg) c5 c10 cn c15 c18).flatten) rfl (fun k u hu => by rw [Hx68.out.cell]; simpa using hu) Try.underlying109 rfl (by rw [HSZ.out]; kernel_rfl)) rfl ⟨_, rfl, by rw [HE.out]; exact (HRM.out.mod Cx69.out (by intro k h1 h2; rcases h1 with h1 | h1 <;> first | omega | (have hb := HBT.out k h1; omega))).widen (by intro k h1; rcases h1 with h1 | h1 <;> first | exact Or.inl h1 | (right; omega)), by rw [HE.out]; exact (Hx66.out.mod Cx69.out (sB HBR)), ((HM0.out.trans Cx65.out (by intro k h1 h2; rcases h2 with h2 | h2 <;> first | exact h2 | omega | (have hb := HBR.out k h2; omega))).trans Cx69.out (by intro k h1 h2; first | exact h2 | omega))⟩
  have K7 := Lib.hid h7
  clear h7
  go_upto_region 14 with (fail)
  refine wp_region_U 98 [44, 43] [0, 1] (fun a0 HA0 => ?_)
  have oe6 := ev HA0 6 rfl
  refine QSeq.pure rfl (.bool false) (fun E => ex_binE rfl (E.v oe6) rfl (guard_ints _ _ _ _ _ _) (run_eql_i _ _ _ Try.underlying3) (congrArg Value.bool (eq_ff K7.out))) ?_
  refine QSeq.pure rfl _ (fun E => ex_assign rfl (E.d 0 0)) ?_
  refine QSeq.nil (t' := [_, _]) rfl ?_
  obtain rfl := HA0.out
  clear HA0 oe6
  simp only [pz, Act.put, List.setIfInBounds_toArray, List.set_cons_zero, List.set_cons_succ]
  by_cases h8 : x.kd = 8
  · have KK := Lib.hid h8
    clear h8
    go_upto_region 16 with (fail)
    refine wp_region_U 98 [49, 48] [0, 1] (fun a0 HA0 => ?_)
    have oe6 := ev HA0 6 rfl
    refine QSeq.pure rfl (.bool true) (fun E => ex_binE rfl (E.v oe6) rfl (guard_ints _ _ _ _ _ _) (run_eql_i _ _ _ Try.underlying3) (congrArg Value.bool (eq_tt KK.out))) ?_
    refine QSeq.pure rfl _ (fun E => ex_assign rfl (E.d 0 0)) ?_
    refine QSeq.nil (t' := [_, _]) rfl ?_
    obtain rfl := HA0.out
    clear HA0 oe6
    simp only [pz, Act.put, List.setIfInBounds_toArray, List.set_cons_zero, List.set_cons_succ]
    have HE := hid (show gBody x s = ({ x with vt := (gVt s).1 }, (gVt s).2) by unfold gBody; rw [KK.out]; rfl)
    go_upto_region 17 with (fail)
    refine wp_region_U 98 [50, 51, 52, 101] [0, 1, 2, 3] (fun a0 HA0 => ?_)
    have oe0 := ev HA0 0 rfl
    have oe3 := ev HA0 3 rfl
    refine QSeq.pure rfl _ (fun E => ex_move rfl (E.v oe0)) ?_
    refine QSeq.call rfl rfl Try.func105 (cVt_Q _ _ _ _ Hx1.out (by intro k h1; have hb := HBR.out k h1; omega)) (fun E => args1 (E.d 0 0)) ?_
    rintro e u17_1 ⟨rfl, qrd, hm⟩
    refine ⟨_, rfl, ?_⟩
    have Hx70 := hid qrd
    have zu17_1 := hm.size
    have Cx71 := hid (show Mod (fun k => (R k)) w1 u17_1 from hm)
    clear hm
    clear qrd Hx1
    refine QSeq.pure rfl (.pointer (some ⟨w.heap.size, 174, none⟩)) (fun E => ex_field rfl Try.underlying109 rfl (by kernel_rfl) (E.v oe3)) ?_
    refine QSeq.go fun act E => ?_
    refine qc_store rfl (wanted_none rfl) rfl (HB3.out.mod Cx71.out (by intro h2; first | omega | (have hb := HBR.out _ h2; omega))) (off := 174) (vs := ((gVt s).1.cells)) (by rw [Vt.len (gVt_OK HBY.out)]; kernel_rfl) (Vt.one _) (by rw [List.size_toArray, flat_sum, HLN.out]; show 174 + _ ≤ 295; rw [Vt.len (gVt_OK HBY.out)]; decide) (E.d 2 0) (ec (E.d 1 1)) ?_
    intro u17_3 qc0 hm
    have qB3 := qc0.eqv (b := ((Mg.segs ({ x with vt := (gVt s).1 } : Mg) c5 c10 c11 c15 c18).flatten : List Value).toArray) ((lay_seg HLN.out 12 (by rw [Vt.len (gVt_OK HBY.out)]; rfl) rfl).trans rfl)
    clear qc0
    have Hx72 := hid qB3
    have zu17_3 := hm.size
    have HMu17_3 := hid hm
    have Cx73 := hid (Mod.goS (S' := (fun k => (R k) ∨ (k = w.heap.size))) Cx71.out hm (fun _ h => Or.inl h) (by intro k h0 h2; exact Or.inr (h2)))
    clear hm Cx71
    clear act E qB3 HB3
    have Hx74 := hid (Hx70.out.mod HMu17_3.out (sB HBR))
    clear Hx70 HMu17_3
    refine QSeq.nil (t' := [_, _, _, _]) rfl ?_
    obtain rfl := HA0.out
    clear HA0 oe0 oe3
    simp only [pz, Act.put, List.setIfInBounds_toArray, List.set_cons_zero, List.set_cons_succ, List.set_nil]
    have HLZ := hid (show (Mg.segs ({ x with vt := (gVt s).1 } : Mg) c5 c10 c11 c15 c18).map List.length = mgN from Mg.lens (x := ({ x with vt := (gVt s).1 } : Mg)) { HOK.out with vt := gVt_OK HBY.out } HC5.out HC10.out HC11.out HC15.out HC18.out)
    have HSZ := hid (show ((Mg.segs ({ x with vt := (gVt s).1 } : Mg) c5 c10 c11 c15 c18).flatten).length = 295 by rw [flat_sum, HLZ.out]; rfl)
    have HRM := hid (show MgR.rd (fun k => (R2 k)) u17_3 ((Mg.segs ({ x with vt := (gVt s).1 } : Mg) c5 c10 c11 c15 c18).flatten) ({ x with vt := (gVt s).1 } : Mg) from ⟨_, _, _, _, _, rfl, { HOK.out with vt := gVt_OK HBY.out }, (Hx2.out.mod Cx73.out (by intro k h1 h2; rcases h2 with h2 | h2 <;> first | omega | (have hb := HBT.out k h1; omega) | (have hb := HBR.out k h2; omega) | exact HDJ.out k h1 h2 | exact HDJ.out k h2 h1 | (have hb := HBT.out k h1; have hb2 := HBR.out k h2; omega))), (Hx3.out.mod Cx73.out (by intro k h1 h2; rcases h2 with h2 | h2 <;> first | omega | (have hb := HBT.out k h1; omega) | (have hb := HBR.out k h2; omega) | exact HDJ.out k h1 h2 | exact HDJ.out k h2 h1 | (have hb := HBT.out k h1; have hb2 := HBR.out k h2; omega))), (Hx4.out.mod Cx73.out (by intro k h1 h2; rcases h2 with h2 | h2 <;> first | omega | (have hb := HBT.out k h1; omega) | (have hb := HBR.out k h2; omega) | exact HDJ.out k h1 h2 | exact HDJ.out k h2 h1 | (have hb := HBT.out k h1; have hb2 := HBR.out k h2; omega))), (Hx5.out.mod Cx73.out (by intro k h1 h2; rcases h2 with h2 | h2 <;> first | omega | (have hb := HBT.out k h1; omega) | (have hb := HBR.out k h2; omega) | exact HDJ.out k h1 h2 | exact HDJ.out k h2 h1 | (have hb := HBT.out k h1; have hb2 := HBR.out k h2; omega))), (Hx6.out.mod Cx73.out (by intro k h1 h2; rcases h2 with h2 | h2 <;> first | omega | (have hb := HBT.out k h1; omega) | (have hb := HBR.out k h2; omega) | exact HDJ.out k h1 h2 | exact HDJ.out k h2 h1 | (have hb := HBT.out k h1; have hb2 := HBR.out k h2; omega)))⟩)
    have HON := hid (MgR.one HRM.out)
    go_upto_region 30 with (fail)
    refine wp_region_U 98 [97, 99] [0, 1] (fun a0 HA0 => ?_)
    have oe3 := ev HA0 3 rfl
    have oe4 := ev HA0 4 rfl
    refine QSeq.pure rfl _ (fun E => ex_loadA rfl Try.underlying109 rfl (off := 0) (cs := ((Mg.segs ({ x with vt := (gVt s).1 } : Mg) c5 c10 c11 c15 c18).flatten)) (by rw [HSZ.out]; kernel_rfl) (E.v oe3) (Cs.whole Hx72.out)) ?_
    refine QSeq.go fun act E => ?_
    refine qc_store rfl (wanted_none rfl) rfl (HB4.out.mod Cx73.out (by intro h2; rcases h2 with h2 | h2 <;> first | omega | (have hb := HBR.out _ h2; omega))) (off := 0) (vs := ((Mg.segs ({ x with vt := (gVt s).1 } : Mg) c5 c10 c11 c15 c18).flatten)) (by rw [HSZ.out]; kernel_rfl) HON.out (by rw [HSZ.out]; show 0 + 295 ≤ 295; decide) (E.v oe4) (ec (E.d 0 0)) ?_
    intro u30_1 qc0 hm
    have qB4 := qc0.eqv (b := (((Mg.segs ({ x with vt := (gVt s).1 } : Mg) c5 c10 c11 c15 c18).flatten) : List Value).toArray) (lay_whole _ _ (by rw [HSZ.out]; rfl))
    clear qc0
    have Hx75 := hid qB4
    have zu30_1 := hm.size
    have Cx76 := hid (show Mod (fun k => (k = w.heap.size + 1)) u17_3 u30_1 from hm)
    clear hm
    clear act E qB4 HB4
    refine QSeq.nil (t' := [_, _]) rfl ?_
    obtain rfl := HA0.out
    clear HA0 oe3 oe4
    simp only [pz, Act.put, List.setIfInBounds_toArray, List.set_cons_zero, List.set_cons_succ, List.set_nil]
    go_wp2
    exact bodyPost_ret (results_cellA rfl _ _ (w.heap.size + 1) ((Mg.segs ({ x with vt := (gVt s).1 } : Mg) c5 c10 c11 c15 c18).flatten) rfl (fun k u hu => by rw [Hx75.out.cell]; simpa using hu) Try.underlying109 rfl (by rw [HSZ.out]; kernel_rfl)) rfl ⟨_, rfl, by rw [HE.out]; exact (HRM.out.mod Cx76.out (sB HBT)).widen (by intro k h1; first | exact Or.inl h1 | (right; omega)), by rw [HE.out]; exact (Hx74.out.mod Cx76.out (sB HBR)), ((HM0.out.trans Cx73.out (by intro k h1 h2; rcases h2 with h2 | h2 <;> first | exact h2 | omega | (have hb := HBR.out k h2; omega))).trans Cx76.out (by intro k h1 h2; first | exact h2 | omega))⟩
  have K8 := Lib.hid h8
  clear h8
  go_upto_region 16 with (fail)
  refine wp_region_U 98 [49, 48] [0, 1] (fun a0 HA0 => ?_)
  have oe6 := ev HA0 6 rfl
  refine QSeq.pure rfl (.bool false) (fun E => ex_binE rfl (E.v oe6) rfl (guard_ints _ _ _ _ _ _) (run_eql_i _ _ _ Try.underlying3) (congrArg Value.bool (eq_ff K8.out))) ?_
  refine QSeq.pure rfl _ (fun E => ex_assign rfl (E.d 0 0)) ?_
  refine QSeq.nil (t' := [_, _]) rfl ?_
  obtain rfl := HA0.out
  clear HA0 oe6
  simp only [pz, Act.put, List.setIfInBounds_toArray, List.set_cons_zero, List.set_cons_succ]
  by_cases h9 : x.kd = 9
  · have KK := Lib.hid h9
    clear h9
    go_upto_region 18 with (fail)
    refine wp_region_U 98 [54, 53] [0, 1] (fun a0 HA0 => ?_)
    have oe6 := ev HA0 6 rfl
    refine QSeq.pure rfl (.bool true) (fun E => ex_binE rfl (E.v oe6) rfl (guard_ints _ _ _ _ _ _) (run_eql_i _ _ _ Try.underlying3) (congrArg Value.bool (eq_tt KK.out))) ?_
    refine QSeq.pure rfl _ (fun E => ex_assign rfl (E.d 0 0)) ?_
    refine QSeq.nil (t' := [_, _]) rfl ?_
    obtain rfl := HA0.out
    clear HA0 oe6
    simp only [pz, Act.put, List.setIfInBounds_toArray, List.set_cons_zero, List.set_cons_succ]
    have HE := hid (show gBody x s = ({ x with ix := (gI s).1, en := (gEn (gI s).2).1 }, (gEn (gI s).2).2) by unfold gBody; rw [KK.out]; rfl)
    go_upto_region 19 with (fail)
    refine wp_region_U 98 [55, 56, 57, 58, 59, 103, 60, 105] [0, 1, 2, 3, 4, 5, 6, 7] (fun a0 HA0 => ?_)
    have oe0 := ev HA0 0 rfl
    have oe3 := ev HA0 3 rfl
    refine QSeq.pure rfl _ (fun E => ex_move rfl (E.v oe0)) ?_
    refine QSeq.call rfl rfl Try.func63 (cI_Q Hx1.out) (fun E => args2 (E.d 0 0) rfl) ?_
    rintro e u19_1 ⟨rfl, qrd, hm⟩
    refine ⟨_, rfl, ?_⟩
    have Hx77 := hid qrd
    have zu19_1 := hm.size
    have Cx78 := hid (show Mod (fun k => (R k)) w1 u19_1 from hm)
    clear hm
    clear qrd Hx1
    refine QSeq.pure rfl _ (fun E => ex_move rfl (E.v oe0)) ?_
    refine QSeq.call rfl rfl Try.func106 (cEn_Q _ _ _ _ Hx77.out (by intro k h1; have hb := HBR.out k h1; omega)) (fun E => args1 (E.d 2 0)) ?_
    rintro e u19_3 ⟨rfl, qrd, hm⟩
    refine ⟨_, rfl, ?_⟩
    have Hx79 := hid qrd
    have zu19_3 := hm.size
    have HMu19_3 := hid hm
    have Cx80 := hid (Mod.goS (S' := (fun k => (R k))) Cx78.out hm (fun _ h => h) (by intro k h0 h2; exact h2))
    clear hm Cx78
    clear qrd Hx77
    refine QSeq.pure rfl (.pointer (some ⟨w.heap.size, 212, none⟩)) (fun E => ex_field rfl Try.underlying109 rfl (by kernel_rfl) (E.v oe3)) ?_
    refine QSeq.go fun act E => ?_
    refine qc_store rfl (wanted_none rfl) rfl (HB3.out.mod Cx80.out (by intro h2; first | omega | (have hb := HBR.out _ h2; omega))) (off := 212) (vs := [Value.int .i64 (gI s).1]) (by kernel_rfl) one1 (by rw [List.size_toArray, flat_sum, HLN.out]; show 212 + 1 ≤ 295; decide) (E.d 4 0) (ec (E.d 1 3)) ?_
    intro u19_5 qc0 hm
    have qB3 := qc0.eqv (b := ((Mg.segs ({ x with ix := (gI s).1 } : Mg) c5 c10 c11 c15 c18).flatten : List Value).toArray) ((lay_seg HLN.out 13 (rfl) rfl).trans rfl)
    clear qc0
    have Hx81 := hid qB3
    have zu19_5 := hm.size
    have HMu19_5 := hid hm
    have Cx82 := hid (Mod.goS (S' := (fun k => (R k) ∨ (k = w.heap.size))) Cx80.out hm (fun _ h => Or.inl h) (by intro k h0 h2; exact Or.inr (h2)))
    clear hm Cx80
    clear act E qB3 HB3
    refine QSeq.pure rfl (.pointer (some ⟨w.heap.size, 213, none⟩)) (fun E => ex_field rfl Try.underlying109 rfl (by kernel_rfl) (E.v oe3)) ?_
    refine QSeq.go fun act E => ?_
    refine qc_store rfl (wanted_none rfl) rfl Hx81.out (off := 213) (vs := ((gEn (gI s).2).1.cells)) (by rw [En.len (gEn_OK (gI_suf.bytes HBY.out))]; kernel_rfl) (En.one _) (by rw [List.size_toArray, flat_sum, (show (Mg.segs ({ x with ix := (gI s).1 } : Mg) c5 c10 c11 c15 c18).map List.length = mgN from HLN.out)]; show 213 + _ ≤ 295; rw [En.len (gEn_OK (gI_suf.bytes HBY.out))]; decide) (E.d 6 0) (ec (E.d 3 3)) ?_
    intro u19_7 qc0 hm
    have qB3 := qc0.eqv (b := ((Mg.segs ({ x with ix := (gI s).1, en := (gEn (gI s).2).1 } : Mg) c5 c10 c11 c15 c18).flatten : List Value).toArray) ((lay_seg (show (Mg.segs ({ x with ix := (gI s).1 } : Mg) c5 c10 c11 c15 c18).map List.length = mgN from HLN.out) 14 (by rw [En.len (gEn_OK (gI_suf.bytes HBY.out))]; rfl) rfl).trans rfl)
    clear qc0
    have Hx83 := hid qB3
    have zu19_7 := hm.size
    have HMu19_7 := hid hm
    have Cx84 := hid (Mod.goS (S' := (fun k => (R k) ∨ (k = w.heap.size))) Cx82.out hm (fun _ h => h) (by intro k h0 h2; exact Or.inr (h2)))
    clear hm Cx82
    clear act E qB3 Hx81
    have Hx85 := hid ((Hx79.out.mod HMu19_5.out (sB HBR)).mod HMu19_7.out (sB HBR))
    clear Hx79 HMu19_3 HMu19_5 HMu19_7
    refine QSeq.nil (t' := [_, _, _, _, _, _, _, _]) rfl ?_
    obtain rfl := HA0.out
    clear HA0 oe0 oe3
    simp only [pz, Act.put, List.setIfInBounds_toArray, List.set_cons_zero, List.set_cons_succ, List.set_nil]
    have HLZ := hid (show (Mg.segs ({ x with ix := (gI s).1, en := (gEn (gI s).2).1 } : Mg) c5 c10 c11 c15 c18).map List.length = mgN from Mg.lens (x := ({ x with ix := (gI s).1, en := (gEn (gI s).2).1 } : Mg)) { HOK.out with ix := gI_I64 _, en := gEn_OK (gI_suf.bytes HBY.out) } HC5.out HC10.out HC11.out HC15.out HC18.out)
    have HSZ := hid (show ((Mg.segs ({ x with ix := (gI s).1, en := (gEn (gI s).2).1 } : Mg) c5 c10 c11 c15 c18).flatten).length = 295 by rw [flat_sum, HLZ.out]; rfl)
    have HRM := hid (show MgR.rd (fun k => (R2 k)) u19_7 ((Mg.segs ({ x with ix := (gI s).1, en := (gEn (gI s).2).1 } : Mg) c5 c10 c11 c15 c18).flatten) ({ x with ix := (gI s).1, en := (gEn (gI s).2).1 } : Mg) from ⟨_, _, _, _, _, rfl, { HOK.out with ix := gI_I64 _, en := gEn_OK (gI_suf.bytes HBY.out) }, (Hx2.out.mod Cx84.out (by intro k h1 h2; rcases h2 with h2 | h2 <;> first | omega | (have hb := HBT.out k h1; omega) | (have hb := HBR.out k h2; omega) | exact HDJ.out k h1 h2 | exact HDJ.out k h2 h1 | (have hb := HBT.out k h1; have hb2 := HBR.out k h2; omega))), (Hx3.out.mod Cx84.out (by intro k h1 h2; rcases h2 with h2 | h2 <;> first | omega | (have hb := HBT.out k h1; omega) | (have hb := HBR.out k h2; omega) | exact HDJ.out k h1 h2 | exact HDJ.out k h2 h1 | (have hb := HBT.out k h1; have hb2 := HBR.out k h2; omega))), (Hx4.out.mod Cx84.out (by intro k h1 h2; rcases h2 with h2 | h2 <;> first | omega | (have hb := HBT.out k h1; omega) | (have hb := HBR.out k h2; omega) | exact HDJ.out k h1 h2 | exact HDJ.out k h2 h1 | (have hb := HBT.out k h1; have hb2 := HBR.out k h2; omega))), (Hx5.out.mod Cx84.out (by intro k h1 h2; rcases h2 with h2 | h2 <;> first | omega | (have hb := HBT.out k h1; omega) | (have hb := HBR.out k h2; omega) | exact HDJ.out k h1 h2 | exact HDJ.out k h2 h1 | (have hb := HBT.out k h1; have hb2 := HBR.out k h2; omega))), (Hx6.out.mod Cx84.out (by intro k h1 h2; rcases h2 with h2 | h2 <;> first | omega | (have hb := HBT.out k h1; omega) | (have hb := HBR.out k h2; omega) | exact HDJ.out k h1 h2 | exact HDJ.out k h2 h1 | (have hb := HBT.out k h1; have hb2 := HBR.out k h2; omega)))⟩)
    have HON := hid (MgR.one HRM.out)
    go_upto_region 30 with (fail)
    refine wp_region_U 98 [97, 99] [0, 1] (fun a0 HA0 => ?_)
    have oe3 := ev HA0 3 rfl
    have oe4 := ev HA0 4 rfl
    refine QSeq.pure rfl _ (fun E => ex_loadA rfl Try.underlying109 rfl (off := 0) (cs := ((Mg.segs ({ x with ix := (gI s).1, en := (gEn (gI s).2).1 } : Mg) c5 c10 c11 c15 c18).flatten)) (by rw [HSZ.out]; kernel_rfl) (E.v oe3) (Cs.whole Hx83.out)) ?_
    refine QSeq.go fun act E => ?_
    refine qc_store rfl (wanted_none rfl) rfl (HB4.out.mod Cx84.out (by intro h2; rcases h2 with h2 | h2 <;> first | omega | (have hb := HBR.out _ h2; omega))) (off := 0) (vs := ((Mg.segs ({ x with ix := (gI s).1, en := (gEn (gI s).2).1 } : Mg) c5 c10 c11 c15 c18).flatten)) (by rw [HSZ.out]; kernel_rfl) HON.out (by rw [HSZ.out]; show 0 + 295 ≤ 295; decide) (E.v oe4) (ec (E.d 0 0)) ?_
    intro u30_1 qc0 hm
    have qB4 := qc0.eqv (b := (((Mg.segs ({ x with ix := (gI s).1, en := (gEn (gI s).2).1 } : Mg) c5 c10 c11 c15 c18).flatten) : List Value).toArray) (lay_whole _ _ (by rw [HSZ.out]; rfl))
    clear qc0
    have Hx86 := hid qB4
    have zu30_1 := hm.size
    have Cx87 := hid (show Mod (fun k => (k = w.heap.size + 1)) u19_7 u30_1 from hm)
    clear hm
    clear act E qB4 HB4
    refine QSeq.nil (t' := [_, _]) rfl ?_
    obtain rfl := HA0.out
    clear HA0 oe3 oe4
    simp only [pz, Act.put, List.setIfInBounds_toArray, List.set_cons_zero, List.set_cons_succ, List.set_nil]
    go_wp2
    exact bodyPost_ret (results_cellA rfl _ _ (w.heap.size + 1) ((Mg.segs ({ x with ix := (gI s).1, en := (gEn (gI s).2).1 } : Mg) c5 c10 c11 c15 c18).flatten) rfl (fun k u hu => by rw [Hx86.out.cell]; simpa using hu) Try.underlying109 rfl (by rw [HSZ.out]; kernel_rfl)) rfl ⟨_, rfl, by rw [HE.out]; exact (HRM.out.mod Cx87.out (sB HBT)).widen (by intro k h1; first | exact Or.inl h1 | (right; omega)), by rw [HE.out]; exact (Hx85.out.mod Cx87.out (sB HBR)), ((HM0.out.trans Cx84.out (by intro k h1 h2; rcases h2 with h2 | h2 <;> first | exact h2 | omega | (have hb := HBR.out k h2; omega))).trans Cx87.out (by intro k h1 h2; first | exact h2 | omega))⟩
  have K9 := Lib.hid h9
  clear h9
  go_upto_region 18 with (fail)
  refine wp_region_U 98 [54, 53] [0, 1] (fun a0 HA0 => ?_)
  have oe6 := ev HA0 6 rfl
  refine QSeq.pure rfl (.bool false) (fun E => ex_binE rfl (E.v oe6) rfl (guard_ints _ _ _ _ _ _) (run_eql_i _ _ _ Try.underlying3) (congrArg Value.bool (eq_ff K9.out))) ?_
  refine QSeq.pure rfl _ (fun E => ex_assign rfl (E.d 0 0)) ?_
  refine QSeq.nil (t' := [_, _]) rfl ?_
  obtain rfl := HA0.out
  clear HA0 oe6
  simp only [pz, Act.put, List.setIfInBounds_toArray, List.set_cons_zero, List.set_cons_succ]
  by_cases h10 : x.kd = 10
  · have KK := Lib.hid h10
    clear h10
    go_upto_region 20 with (fail)
    refine wp_region_U 98 [62, 61] [0, 1] (fun a0 HA0 => ?_)
    have oe6 := ev HA0 6 rfl
    refine QSeq.pure rfl (.bool true) (fun E => ex_binE rfl (E.v oe6) rfl (guard_ints _ _ _ _ _ _) (run_eql_i _ _ _ Try.underlying3) (congrArg Value.bool (eq_tt KK.out))) ?_
    refine QSeq.pure rfl _ (fun E => ex_assign rfl (E.d 0 0)) ?_
    refine QSeq.nil (t' := [_, _]) rfl ?_
    obtain rfl := HA0.out
    clear HA0 oe6
    simp only [pz, Act.put, List.setIfInBounds_toArray, List.set_cons_zero, List.set_cons_succ]
    have HE := hid (show gBody x s = ({ x with op := (gOp s).1 }, (gOp s).2) by unfold gBody; rw [KK.out]; rfl)
    go_upto_region 21 with (fail)
    refine wp_region_U 98 [63, 64, 65, 101] [0, 1, 2, 3] (fun a0 HA0 => ?_)
    have oe0 := ev HA0 0 rfl
    have oe3 := ev HA0 3 rfl
    refine QSeq.pure rfl _ (fun E => ex_move rfl (E.v oe0)) ?_
    refine QSeq.call rfl rfl Try.func107 (cOp_G _ _ _ _ Hx1.out (by intro k h1; have hb := HBR.out k h1; omega) HLE.out) (fun E => args1 (E.d 0 0)) ?_
    rintro e u21_1 ⟨cn, rfl, qnw, qrd, hm⟩
    have HCN := hid (OpR.len qnw)
    have HCO := hid (OpR.one qnw)
    refine ⟨_, rfl, ?_⟩
    have Hx88 := hid qnw
    have Hx89 := hid qrd
    have zu21_1 := hm.size
    have Cx90 := hid (show Mod (fun k => (R k)) w1 u21_1 from hm)
    clear hm
    clear qnw qrd Hx1
    refine QSeq.pure rfl (.pointer (some ⟨w.heap.size, 248, none⟩)) (fun E => ex_field rfl Try.underlying109 rfl (by kernel_rfl) (E.v oe3)) ?_
    refine QSeq.go fun act E => ?_
    refine qc_store rfl (wanted_none rfl) rfl (HB3.out.mod Cx90.out (by intro h2; first | omega | (have hb := HBR.out _ h2; omega))) (off := 248) (vs := cn) (by rw [HCN.out]; kernel_rfl) HCO.out (by rw [List.size_toArray, flat_sum, HLN.out]; show 248 + _ ≤ 295; rw [HCN.out]; decide) (E.d 2 0) (ec (E.d 1 1)) ?_
    intro u21_3 qc0 hm
    have qB3 := qc0.eqv (b := ((Mg.segs ({ x with op := (gOp s).1 } : Mg) c5 c10 c11 cn c18).flatten : List Value).toArray) ((lay_seg HLN.out 15 (by rw [HCN.out]; rfl) rfl).trans rfl)
    clear qc0
    have Hx91 := hid qB3
    have zu21_3 := hm.size
    have HMu21_3 := hid hm
    have Cx92 := hid (Mod.goS (S' := (fun k => (R k) ∨ (k = w.heap.size))) Cx90.out hm (fun _ h => Or.inl h) (by intro k h0 h2; exact Or.inr (h2)))
    clear hm Cx90
    clear act E qB3 HB3
    have Hx93 := hid (Hx89.out.mod HMu21_3.out (sB HBR))
    have Hx94 := hid (Hx88.out.mod HMu21_3.out (by intro k h1 h2; omega))
    clear Hx89 Hx88 HMu21_3
    refine QSeq.nil (t' := [_, _, _, _]) rfl ?_
    obtain rfl := HA0.out
    clear HA0 oe0 oe3
    simp only [pz, Act.put, List.setIfInBounds_toArray, List.set_cons_zero, List.set_cons_succ, List.set_nil]
    have HLZ := hid (show (Mg.segs ({ x with op := (gOp s).1 } : Mg) c5 c10 c11 cn c18).map List.length = mgN from Mg.lens (x := ({ x with op := (gOp s).1 } : Mg)) { HOK.out with } HC5.out HC10.out HC11.out HCN.out HC18.out)
    have HSZ := hid (show ((Mg.segs ({ x with op := (gOp s).1 } : Mg) c5 c10 c11 cn c18).flatten).length = 295 by rw [flat_sum, HLZ.out]; rfl)
    have HRM := hid (show MgR.rd (fun k => (R2 k) ∨ (New w1 u21_1 k)) u21_3 ((Mg.segs ({ x with op := (gOp s).1 } : Mg) c5 c10 c11 cn c18).flatten) ({ x with op := (gOp s).1 } : Mg) from ⟨_, _, _, _, _, rfl, { HOK.out with }, ((Hx2.out.mod Cx92.out (by intro k h1 h2; rcases h2 with h2 | h2 <;> first | omega | (have hb := HBT.out k h1; omega) | (have hb := HBR.out k h2; omega) | exact HDJ.out k h1 h2 | exact HDJ.out k h2 h1 | (have hb := HBT.out k h1; have hb2 := HBR.out k h2; omega))).widen (by intro k h1; first | omega | exact h1.elim | exact Or.inl h1 | exact Or.inr (h1))), ((Hx3.out.mod Cx92.out (by intro k h1 h2; rcases h2 with h2 | h2 <;> first | omega | (have hb := HBT.out k h1; omega) | (have hb := HBR.out k h2; omega) | exact HDJ.out k h1 h2 | exact HDJ.out k h2 h1 | (have hb := HBT.out k h1; have hb2 := HBR.out k h2; omega))).widen (by intro k h1; first | omega | exact h1.elim | exact Or.inl h1 | exact Or.inr (h1))), ((Hx4.out.mod Cx92.out (by intro k h1 h2; rcases h2 with h2 | h2 <;> first | omega | (have hb := HBT.out k h1; omega) | (have hb := HBR.out k h2; omega) | exact HDJ.out k h1 h2 | exact HDJ.out k h2 h1 | (have hb := HBT.out k h1; have hb2 := HBR.out k h2; omega))).widen (by intro k h1; first | omega | exact h1.elim | exact Or.inl h1 | exact Or.inr (h1))), (Hx94.out.widen (by intro k h1; first | omega | exact h1.elim | exact Or.inl h1 | exact Or.inr (h1))), ((Hx6.out.mod Cx92.out (by intro k h1 h2; rcases h2 with h2 | h2 <;> first | omega | (have hb := HBT.out k h1; omega) | (have hb := HBR.out k h2; omega) | exact HDJ.out k h1 h2 | exact HDJ.out k h2 h1 | (have hb := HBT.out k h1; have hb2 := HBR.out k h2; omega))).widen (by intro k h1; first | omega | exact h1.elim | exact Or.inl h1 | exact Or.inr (h1)))⟩)
    have HON := hid (MgR.one HRM.out)
    go_upto_region 30 with (fail)
    refine wp_region_U 98 [97, 99] [0, 1] (fun a0 HA0 => ?_)
    have oe3 := ev HA0 3 rfl
    have oe4 := ev HA0 4 rfl
    refine QSeq.pure rfl _ (fun E => ex_loadA rfl Try.underlying109 rfl (off := 0) (cs := ((Mg.segs ({ x with op := (gOp s).1 } : Mg) c5 c10 c11 cn c18).flatten)) (by rw [HSZ.out]; kernel_rfl) (E.v oe3) (Cs.whole Hx91.out)) ?_
    refine QSeq.go fun act E => ?_
    refine qc_store rfl (wanted_none rfl) rfl (HB4.out.mod Cx92.out (by intro h2; rcases h2 with h2 | h2 <;> first | omega | (have hb := HBR.out _ h2; omega))) (off := 0) (vs := ((Mg.segs ({ x with op := (gOp s).1 } : Mg) c5 c10 c11 cn c18).flatten)) (by rw [HSZ.out]; kernel_rfl) HON.out (by rw [HSZ.out]; show 0 + 295 ≤ 295; decide) (E.v oe4) (ec (E.d 0 0)) ?_
    intro u30_1 qc0 hm
    have qB4 := qc0.eqv (b := (((Mg.segs ({ x with op := (gOp s).1 } : Mg) c5 c10 c11 cn c18).flatten) : List Value).toArray) (lay_whole _ _ (by rw [HSZ.out]; rfl))
    clear qc0
    have Hx95 := hid qB4
    have zu30_1 := hm.size
    have Cx96 := hid (show Mod (fun k => (k = w.heap.size + 1)) u21_3 u30_1 from hm)
    clear hm
    clear act E qB4 HB4
    refine QSeq.nil (t' := [_, _]) rfl ?_
    obtain rfl := HA0.out
    clear HA0 oe3 oe4
    simp only [pz, Act.put, List.setIfInBounds_toArray, List.set_cons_zero, List.set_cons_succ, List.set_nil]
    go_wp2
    exact bodyPost_ret (results_cellA rfl _ _ (w.heap.size + 1) ((Mg.segs ({ x with op := (gOp s).1 } : Mg) c5 c10 c11 cn c18).flatten) rfl (fun k u hu => by rw [Hx95.out.cell]; simpa using hu) Try.underlying109 rfl (by rw [HSZ.out]; kernel_rfl)) rfl ⟨_, rfl, by rw [HE.out]; exact (HRM.out.mod Cx96.out (by intro k h1 h2; rcases h1 with h1 | h1 <;> first | omega | (have hb := HBT.out k h1; omega))).widen (by intro k h1; rcases h1 with h1 | h1 <;> first | exact Or.inl h1 | (right; omega)), by rw [HE.out]; exact (Hx93.out.mod Cx96.out (sB HBR)), ((HM0.out.trans Cx92.out (by intro k h1 h2; rcases h2 with h2 | h2 <;> first | exact h2 | omega | (have hb := HBR.out k h2; omega))).trans Cx96.out (by intro k h1 h2; first | exact h2 | omega))⟩
  have K10 := Lib.hid h10
  clear h10
  go_upto_region 20 with (fail)
  refine wp_region_U 98 [62, 61] [0, 1] (fun a0 HA0 => ?_)
  have oe6 := ev HA0 6 rfl
  refine QSeq.pure rfl (.bool false) (fun E => ex_binE rfl (E.v oe6) rfl (guard_ints _ _ _ _ _ _) (run_eql_i _ _ _ Try.underlying3) (congrArg Value.bool (eq_ff K10.out))) ?_
  refine QSeq.pure rfl _ (fun E => ex_assign rfl (E.d 0 0)) ?_
  refine QSeq.nil (t' := [_, _]) rfl ?_
  obtain rfl := HA0.out
  clear HA0 oe6
  simp only [pz, Act.put, List.setIfInBounds_toArray, List.set_cons_zero, List.set_cons_succ]
  by_cases h11 : x.kd = 11
  · have KK := Lib.hid h11
    clear h11
    go_upto_region 22 with (fail)
    refine wp_region_U 98 [67, 66] [0, 1] (fun a0 HA0 => ?_)
    have oe6 := ev HA0 6 rfl
    refine QSeq.pure rfl (.bool true) (fun E => ex_binE rfl (E.v oe6) rfl (guard_ints _ _ _ _ _ _) (run_eql_i _ _ _ Try.underlying3) (congrArg Value.bool (eq_tt KK.out))) ?_
    refine QSeq.pure rfl _ (fun E => ex_assign rfl (E.d 0 0)) ?_
    refine QSeq.nil (t' := [_, _]) rfl ?_
    obtain rfl := HA0.out
    clear HA0 oe6
    simp only [pz, Act.put, List.setIfInBounds_toArray, List.set_cons_zero, List.set_cons_succ]
    have HE := hid (show gBody x s = ({ x with ix := (gI s).1 }, (gI s).2) by unfold gBody; rw [KK.out]; rfl)
    go_upto_region 23 with (fail)
    refine wp_region_U 98 [68, 69, 70, 101] [0, 1, 2, 3] (fun a0 HA0 => ?_)
    have oe0 := ev HA0 0 rfl
    have oe3 := ev HA0 3 rfl
    refine QSeq.pure rfl _ (fun E => ex_move rfl (E.v oe0)) ?_
    refine QSeq.call rfl rfl Try.func63 (cI_Q Hx1.out) (fun E => args2 (E.d 0 0) rfl) ?_
    rintro e u23_1 ⟨rfl, qrd, hm⟩
    refine ⟨_, rfl, ?_⟩
    have Hx97 := hid qrd
    have zu23_1 := hm.size
    have Cx98 := hid (show Mod (fun k => (R k)) w1 u23_1 from hm)
    clear hm
    clear qrd Hx1
    refine QSeq.pure rfl (.pointer (some ⟨w.heap.size, 212, none⟩)) (fun E => ex_field rfl Try.underlying109 rfl (by kernel_rfl) (E.v oe3)) ?_
    refine QSeq.go fun act E => ?_
    refine qc_store rfl (wanted_none rfl) rfl (HB3.out.mod Cx98.out (by intro h2; first | omega | (have hb := HBR.out _ h2; omega))) (off := 212) (vs := [Value.int .i64 (gI s).1]) (by kernel_rfl) one1 (by rw [List.size_toArray, flat_sum, HLN.out]; show 212 + 1 ≤ 295; decide) (E.d 2 0) (ec (E.d 1 1)) ?_
    intro u23_3 qc0 hm
    have qB3 := qc0.eqv (b := ((Mg.segs ({ x with ix := (gI s).1 } : Mg) c5 c10 c11 c15 c18).flatten : List Value).toArray) ((lay_seg HLN.out 13 (rfl) rfl).trans rfl)
    clear qc0
    have Hx99 := hid qB3
    have zu23_3 := hm.size
    have HMu23_3 := hid hm
    have Cx100 := hid (Mod.goS (S' := (fun k => (R k) ∨ (k = w.heap.size))) Cx98.out hm (fun _ h => Or.inl h) (by intro k h0 h2; exact Or.inr (h2)))
    clear hm Cx98
    clear act E qB3 HB3
    have Hx101 := hid (Hx97.out.mod HMu23_3.out (sB HBR))
    clear Hx97 HMu23_3
    refine QSeq.nil (t' := [_, _, _, _]) rfl ?_
    obtain rfl := HA0.out
    clear HA0 oe0 oe3
    simp only [pz, Act.put, List.setIfInBounds_toArray, List.set_cons_zero, List.set_cons_succ, List.set_nil]
    have HLZ := hid (show (Mg.segs ({ x with ix := (gI s).1 } : Mg) c5 c10 c11 c15 c18).map List.length = mgN from Mg.lens (x := ({ x with ix := (gI s).1 } : Mg)) { HOK.out with ix := gI_I64 _ } HC5.out HC10.out HC11.out HC15.out HC18.out)
    have HSZ := hid (show ((Mg.segs ({ x with ix := (gI s).1 } : Mg) c5 c10 c11 c15 c18).flatten).length = 295 by rw [flat_sum, HLZ.out]; rfl)
    have HRM := hid (show MgR.rd (fun k => (R2 k)) u23_3 ((Mg.segs ({ x with ix := (gI s).1 } : Mg) c5 c10 c11 c15 c18).flatten) ({ x with ix := (gI s).1 } : Mg) from ⟨_, _, _, _, _, rfl, { HOK.out with ix := gI_I64 _ }, (Hx2.out.mod Cx100.out (by intro k h1 h2; rcases h2 with h2 | h2 <;> first | omega | (have hb := HBT.out k h1; omega) | (have hb := HBR.out k h2; omega) | exact HDJ.out k h1 h2 | exact HDJ.out k h2 h1 | (have hb := HBT.out k h1; have hb2 := HBR.out k h2; omega))), (Hx3.out.mod Cx100.out (by intro k h1 h2; rcases h2 with h2 | h2 <;> first | omega | (have hb := HBT.out k h1; omega) | (have hb := HBR.out k h2; omega) | exact HDJ.out k h1 h2 | exact HDJ.out k h2 h1 | (have hb := HBT.out k h1; have hb2 := HBR.out k h2; omega))), (Hx4.out.mod Cx100.out (by intro k h1 h2; rcases h2 with h2 | h2 <;> first | omega | (have hb := HBT.out k h1; omega) | (have hb := HBR.out k h2; omega) | exact HDJ.out k h1 h2 | exact HDJ.out k h2 h1 | (have hb := HBT.out k h1; have hb2 := HBR.out k h2; omega))), (Hx5.out.mod Cx100.out (by intro k h1 h2; rcases h2 with h2 | h2 <;> first | omega | (have hb := HBT.out k h1; omega) | (have hb := HBR.out k h2; omega) | exact HDJ.out k h1 h2 | exact HDJ.out k h2 h1 | (have hb := HBT.out k h1; have hb2 := HBR.out k h2; omega))), (Hx6.out.mod Cx100.out (by intro k h1 h2; rcases h2 with h2 | h2 <;> first | omega | (have hb := HBT.out k h1; omega) | (have hb := HBR.out k h2; omega) | exact HDJ.out k h1 h2 | exact HDJ.out k h2 h1 | (have hb := HBT.out k h1; have hb2 := HBR.out k h2; omega)))⟩)
    have HON := hid (MgR.one HRM.out)
    go_upto_region 30 with (fail)
    refine wp_region_U 98 [97, 99] [0, 1] (fun a0 HA0 => ?_)
    have oe3 := ev HA0 3 rfl
    have oe4 := ev HA0 4 rfl
    refine QSeq.pure rfl _ (fun E => ex_loadA rfl Try.underlying109 rfl (off := 0) (cs := ((Mg.segs ({ x with ix := (gI s).1 } : Mg) c5 c10 c11 c15 c18).flatten)) (by rw [HSZ.out]; kernel_rfl) (E.v oe3) (Cs.whole Hx99.out)) ?_
    refine QSeq.go fun act E => ?_
    refine qc_store rfl (wanted_none rfl) rfl (HB4.out.mod Cx100.out (by intro h2; rcases h2 with h2 | h2 <;> first | omega | (have hb := HBR.out _ h2; omega))) (off := 0) (vs := ((Mg.segs ({ x with ix := (gI s).1 } : Mg) c5 c10 c11 c15 c18).flatten)) (by rw [HSZ.out]; kernel_rfl) HON.out (by rw [HSZ.out]; show 0 + 295 ≤ 295; decide) (E.v oe4) (ec (E.d 0 0)) ?_
    intro u30_1 qc0 hm
    have qB4 := qc0.eqv (b := (((Mg.segs ({ x with ix := (gI s).1 } : Mg) c5 c10 c11 c15 c18).flatten) : List Value).toArray) (lay_whole _ _ (by rw [HSZ.out]; rfl))
    clear qc0
    have Hx102 := hid qB4
    have zu30_1 := hm.size
    have Cx103 := hid (show Mod (fun k => (k = w.heap.size + 1)) u23_3 u30_1 from hm)
    clear hm
    clear act E qB4 HB4
    refine QSeq.nil (t' := [_, _]) rfl ?_
    obtain rfl := HA0.out
    clear HA0 oe3 oe4
    simp only [pz, Act.put, List.setIfInBounds_toArray, List.set_cons_zero, List.set_cons_succ, List.set_nil]
    go_wp2
    exact bodyPost_ret (results_cellA rfl _ _ (w.heap.size + 1) ((Mg.segs ({ x with ix := (gI s).1 } : Mg) c5 c10 c11 c15 c18).flatten) rfl (fun k u hu => by rw [Hx102.out.cell]; simpa using hu) Try.underlying109 rfl (by rw [HSZ.out]; kernel_rfl)) rfl ⟨_, rfl, by rw [HE.out]; exact (HRM.out.mod Cx103.out (sB HBT)).widen (by intro k h1; first | exact Or.inl h1 | (right; omega)), by rw [HE.out]; exact (Hx101.out.mod Cx103.out (sB HBR)), ((HM0.out.trans Cx100.out (by intro k h1 h2; rcases h2 with h2 | h2 <;> first | exact h2 | omega | (have hb := HBR.out k h2; omega))).trans Cx103.out (by intro k h1 h2; first | exact h2 | omega))⟩
  have K11 := Lib.hid h11
  clear h11
  go_upto_region 22 with (fail)
  refine wp_region_U 98 [67, 66] [0, 1] (fun a0 HA0 => ?_)
  have oe6 := ev HA0 6 rfl
  refine QSeq.pure rfl (.bool false) (fun E => ex_binE rfl (E.v oe6) rfl (guard_ints _ _ _ _ _ _) (run_eql_i _ _ _ Try.underlying3) (congrArg Value.bool (eq_ff K11.out))) ?_
  refine QSeq.pure rfl _ (fun E => ex_assign rfl (E.d 0 0)) ?_
  refine QSeq.nil (t' := [_, _]) rfl ?_
  obtain rfl := HA0.out
  clear HA0 oe6
  simp only [pz, Act.put, List.setIfInBounds_toArray, List.set_cons_zero, List.set_cons_succ]
  by_cases h12 : x.kd = 12
  · have KK := Lib.hid h12
    clear h12
    go_upto_region 24 with (fail)
    refine wp_region_U 98 [72, 71] [0, 1] (fun a0 HA0 => ?_)
    have oe6 := ev HA0 6 rfl
    refine QSeq.pure rfl (.bool true) (fun E => ex_binE rfl (E.v oe6) rfl (guard_ints _ _ _ _ _ _) (run_eql_i _ _ _ Try.underlying3) (congrArg Value.bool (eq_tt KK.out))) ?_
    refine QSeq.pure rfl _ (fun E => ex_assign rfl (E.d 0 0)) ?_
    refine QSeq.nil (t' := [_, _]) rfl ?_
    obtain rfl := HA0.out
    clear HA0 oe6
    simp only [pz, Act.put, List.setIfInBounds_toArray, List.set_cons_zero, List.set_cons_succ]
    have HE := hid (show gBody x s = ({ x with dn := (gDn s).1 }, (gDn s).2) by unfold gBody; rw [KK.out]; rfl)
    go_upto_region 25 with (fail)
    refine wp_region_U 98 [73, 74, 75, 101] [0, 1, 2, 3] (fun a0 HA0 => ?_)
    have oe0 := ev HA0 0 rfl
    have oe3 := ev HA0 3 rfl
    refine QSeq.pure rfl _ (fun E => ex_move rfl (E.v oe0)) ?_
    refine QSeq.call rfl rfl Try.func108 (cDn_Q _ _ _ _ Hx1.out (by intro k h1; have hb := HBR.out k h1; omega)) (fun E => args1 (E.d 0 0)) ?_
    rintro e u25_1 ⟨rfl, qrd, hm⟩
    refine ⟨_, rfl, ?_⟩
    have Hx104 := hid qrd
    have zu25_1 := hm.size
    have Cx105 := hid (show Mod (fun k => (R k)) w1 u25_1 from hm)
    clear hm
    clear qrd Hx1
    refine QSeq.pure rfl (.pointer (some ⟨w.heap.size, 282, none⟩)) (fun E => ex_field rfl Try.underlying109 rfl (by kernel_rfl) (E.v oe3)) ?_
    refine QSeq.go fun act E => ?_
    refine qc_store rfl (wanted_none rfl) rfl (HB3.out.mod Cx105.out (by intro h2; first | omega | (have hb := HBR.out _ h2; omega))) (off := 282) (vs := ((gDn s).1.cells)) (by kernel_rfl) (Dn.one _) (by rw [List.size_toArray, flat_sum, HLN.out]; show 282 + 4 ≤ 295; decide) (E.d 2 0) (ec (E.d 1 1)) ?_
    intro u25_3 qc0 hm
    have qB3 := qc0.eqv (b := ((Mg.segs ({ x with dn := (gDn s).1 } : Mg) c5 c10 c11 c15 c18).flatten : List Value).toArray) ((lay_seg HLN.out 16 rfl rfl).trans rfl)
    clear qc0
    have Hx106 := hid qB3
    have zu25_3 := hm.size
    have HMu25_3 := hid hm
    have Cx107 := hid (Mod.goS (S' := (fun k => (R k) ∨ (k = w.heap.size))) Cx105.out hm (fun _ h => Or.inl h) (by intro k h0 h2; exact Or.inr (h2)))
    clear hm Cx105
    clear act E qB3 HB3
    have Hx108 := hid (Hx104.out.mod HMu25_3.out (sB HBR))
    clear Hx104 HMu25_3
    refine QSeq.nil (t' := [_, _, _, _]) rfl ?_
    obtain rfl := HA0.out
    clear HA0 oe0 oe3
    simp only [pz, Act.put, List.setIfInBounds_toArray, List.set_cons_zero, List.set_cons_succ, List.set_nil]
    have HLZ := hid (show (Mg.segs ({ x with dn := (gDn s).1 } : Mg) c5 c10 c11 c15 c18).map List.length = mgN from Mg.lens (x := ({ x with dn := (gDn s).1 } : Mg)) { HOK.out with dn := gDn_OK HBY.out } HC5.out HC10.out HC11.out HC15.out HC18.out)
    have HSZ := hid (show ((Mg.segs ({ x with dn := (gDn s).1 } : Mg) c5 c10 c11 c15 c18).flatten).length = 295 by rw [flat_sum, HLZ.out]; rfl)
    have HRM := hid (show MgR.rd (fun k => (R2 k)) u25_3 ((Mg.segs ({ x with dn := (gDn s).1 } : Mg) c5 c10 c11 c15 c18).flatten) ({ x with dn := (gDn s).1 } : Mg) from ⟨_, _, _, _, _, rfl, { HOK.out with dn := gDn_OK HBY.out }, (Hx2.out.mod Cx107.out (by intro k h1 h2; rcases h2 with h2 | h2 <;> first | omega | (have hb := HBT.out k h1; omega) | (have hb := HBR.out k h2; omega) | exact HDJ.out k h1 h2 | exact HDJ.out k h2 h1 | (have hb := HBT.out k h1; have hb2 := HBR.out k h2; omega))), (Hx3.out.mod Cx107.out (by intro k h1 h2; rcases h2 with h2 | h2 <;> first | omega | (have hb := HBT.out k h1; omega) | (have hb := HBR.out k h2; omega) | exact HDJ.out k h1 h2 | exact HDJ.out k h2 h1 | (have hb := HBT.out k h1; have hb2 := HBR.out k h2; omega))), (Hx4.out.mod Cx107.out (by intro k h1 h2; rcases h2 with h2 | h2 <;> first | omega | (have hb := HBT.out k h1; omega) | (have hb := HBR.out k h2; omega) | exact HDJ.out k h1 h2 | exact HDJ.out k h2 h1 | (have hb := HBT.out k h1; have hb2 := HBR.out k h2; omega))), (Hx5.out.mod Cx107.out (by intro k h1 h2; rcases h2 with h2 | h2 <;> first | omega | (have hb := HBT.out k h1; omega) | (have hb := HBR.out k h2; omega) | exact HDJ.out k h1 h2 | exact HDJ.out k h2 h1 | (have hb := HBT.out k h1; have hb2 := HBR.out k h2; omega))), (Hx6.out.mod Cx107.out (by intro k h1 h2; rcases h2 with h2 | h2 <;> first | omega | (have hb := HBT.out k h1; omega) | (have hb := HBR.out k h2; omega) | exact HDJ.out k h1 h2 | exact HDJ.out k h2 h1 | (have hb := HBT.out k h1; have hb2 := HBR.out k h2; omega)))⟩)
    have HON := hid (MgR.one HRM.out)
    go_upto_region 30 with (fail)
    refine wp_region_U 98 [97, 99] [0, 1] (fun a0 HA0 => ?_)
    have oe3 := ev HA0 3 rfl
    have oe4 := ev HA0 4 rfl
    refine QSeq.pure rfl _ (fun E => ex_loadA rfl Try.underlying109 rfl (off := 0) (cs := ((Mg.segs ({ x with dn := (gDn s).1 } : Mg) c5 c10 c11 c15 c18).flatten)) (by rw [HSZ.out]; kernel_rfl) (E.v oe3) (Cs.whole Hx106.out)) ?_
    refine QSeq.go fun act E => ?_
    refine qc_store rfl (wanted_none rfl) rfl (HB4.out.mod Cx107.out (by intro h2; rcases h2 with h2 | h2 <;> first | omega | (have hb := HBR.out _ h2; omega))) (off := 0) (vs := ((Mg.segs ({ x with dn := (gDn s).1 } : Mg) c5 c10 c11 c15 c18).flatten)) (by rw [HSZ.out]; kernel_rfl) HON.out (by rw [HSZ.out]; show 0 + 295 ≤ 295; decide) (E.v oe4) (ec (E.d 0 0)) ?_
    intro u30_1 qc0 hm
    have qB4 := qc0.eqv (b := (((Mg.segs ({ x with dn := (gDn s).1 } : Mg) c5 c10 c11 c15 c18).flatten) : List Value).toArray) (lay_whole _ _ (by rw [HSZ.out]; rfl))
    clear qc0
    have Hx109 := hid qB4
    have zu30_1 := hm.size
    have Cx110 := hid (show Mod (fun k => (k = w.heap.size + 1)) u25_3 u30_1 from hm)
    clear hm
    clear act E qB4 HB4
    refine QSeq.nil (t' := [_, _]) rfl ?_
    obtain rfl := HA0.out
    clear HA0 oe3 oe4
    simp only [pz, Act.put, List.setIfInBounds_toArray, List.set_cons_zero, List.set_cons_succ, List.set_nil]
    go_wp2
    exact bodyPost_ret (results_cellA rfl _ _ (w.heap.size + 1) ((Mg.segs ({ x with dn := (gDn s).1 } : Mg) c5 c10 c11 c15 c18).flatten) rfl (fun k u hu => by rw [Hx109.out.cell]; simpa using hu) Try.underlying109 rfl (by rw [HSZ.out]; kernel_rfl)) rfl ⟨_, rfl, by rw [HE.out]; exact (HRM.out.mod Cx110.out (sB HBT)).widen (by intro k h1; first | exact Or.inl h1 | (right; omega)), by rw [HE.out]; exact (Hx108.out.mod Cx110.out (sB HBR)), ((HM0.out.trans Cx107.out (by intro k h1 h2; rcases h2 with h2 | h2 <;> first | exact h2 | omega | (have hb := HBR.out k h2; omega))).trans Cx110.out (by intro k h1 h2; first | exact h2 | omega))⟩
  have K12 := Lib.hid h12
  clear h12
  go_upto_region 24 with (fail)
  refine wp_region_U 98 [72, 71] [0, 1] (fun a0 HA0 => ?_)
  have oe6 := ev HA0 6 rfl
  refine QSeq.pure rfl (.bool false) (fun E => ex_binE rfl (E.v oe6) rfl (guard_ints _ _ _ _ _ _) (run_eql_i _ _ _ Try.underlying3) (congrArg Value.bool (eq_ff K12.out))) ?_
  refine QSeq.pure rfl _ (fun E => ex_assign rfl (E.d 0 0)) ?_
  refine QSeq.nil (t' := [_, _]) rfl ?_
  obtain rfl := HA0.out
  clear HA0 oe6
  simp only [pz, Act.put, List.setIfInBounds_toArray, List.set_cons_zero, List.set_cons_succ]
  by_cases h13 : x.kd = 13
  · have KK := Lib.hid h13
    clear h13
    go_upto_region 26 with (fail)
    refine wp_region_U 98 [77, 76] [0, 1] (fun a0 HA0 => ?_)
    have oe6 := ev HA0 6 rfl
    refine QSeq.pure rfl (.bool true) (fun E => ex_binE rfl (E.v oe6) rfl (guard_ints _ _ _ _ _ _) (run_eql_i _ _ _ Try.underlying3) (congrArg Value.bool (eq_tt KK.out))) ?_
    refine QSeq.pure rfl _ (fun E => ex_assign rfl (E.d 0 0)) ?_
    refine QSeq.nil (t' := [_, _]) rfl ?_
    obtain rfl := HA0.out
    clear HA0 oe6
    simp only [pz, Act.put, List.setIfInBounds_toArray, List.set_cons_zero, List.set_cons_succ]
    have HE := hid (show gBody x s = ({ x with ix := (gI s).1, rp := strOfNums (rRow 256 (gI s).2).1 }, (rRow 256 (gI s).2).2) by unfold gBody; rw [KK.out]; rfl)
    go_upto_region 27 with (fail)
    generalize ha0 : Act.mk _ _ = a0
    have oe0 : a0.eval (.tmp 0) = .pointer (some ⟨r, 0, none⟩) := by rw [← ha0]; rfl
    have oe3 : a0.eval (.tmp 3) = .pointer (some ⟨w.heap.size, 0, none⟩) := by rw [← ha0]; rfl
    have hsz0 : a0.tmps.size = 98 := by rw [← ha0]; rfl
    have HA0 := hid ha0
    clear ha0
    refine wp_region_Q1 98 hsz0 [78, 79, 80, 81, 82, 83, 104, 84, 106] (fun k => (R k) ∨ (k = w.heap.size)) (fun k j => (k = 0 ∧ ((R j))) ∨ (k = 1 ∧ ((R j))) ∨ (k = 2 ∧ ((j = w.heap.size))) ∨ (k = 3 ∧ ((j = w.heap.size)))) (by intro k j h; (try dsimp only at h ⊢); rcases h with ⟨-, h⟩ | ⟨-, h⟩ | ⟨-, h⟩ | ⟨-, h⟩; (exact Or.inl (h)); (exact Or.inl (h)); (exact Or.inr (h)); (exact Or.inr (h))) [qi (.pointer (some ⟨r, 0, none⟩)), qi (.int .i64 (gI s).1), qi (.pointer (some ⟨r, 0, none⟩)), qx 1 w1.heap.size (fun k => (R k) ∨ (k = w.heap.size)) (fun R w v => RdR R ((rRow 256 (gI s).2).1).length w v (rRow 256 (gI s).2).1), qi (.string (strOfNums (rRow 256 (gI s).2).1)), qi (.pointer (some ⟨w.heap.size, 212, none⟩)), qv 2, qi (.pointer (some ⟨w.heap.size, 286, none⟩)), qv 3] ⟨qi_stable, qi_stable, qi_stable, (qx_stable (qr_stable rdR_cells)), qi_stable, qi_stable, qv_stable, qi_stable, qv_stable, trivial⟩ [1, 3, 6, 8] ⟨?_, ?_, ?_, ?_, ?_, ?_, ?_, ?_, ?_, trivial⟩ ?_
    · exact stq (fun E => ex_move rfl (E.v oe0))
    · exact stepq_chain rfl
    · exact stq (fun E => ex_move rfl (E.v oe0))
    · exact stepq_chain rfl
    · refine stepq_env rfl rfl rfl fun _ _ _ _ _ _ _ _ _ hd _ _ => ?_
      obtain ⟨-, Rq, -, hrd⟩ := hd ⟨3, .data⟩ (by simp) rfl _ rfl
      exact qe_run rfl (wanted_none rfl) (ex_conv rfl rfl (bytes_string hrd.1)) QE.refl rfl
    · exact stq (fun E => ex_field rfl Try.underlying109 rfl (by kernel_rfl) (E.v oe3))
    · exact stepq_chain rfl
    · exact stq (fun E => ex_field rfl Try.underlying109 rfl (by kernel_rfl) (E.v oe3))
    · exact stepq_chain rfl
    intro u27_0 hr
    have zu27_0 := hr.size
    have Cx111 := hid (hr.new (S := (fun k => (R k) ∨ (k = w.heap.size))))
    have Hx112 := hid (Hx1.out.mod hr (by intro k h1 h2; have hb := HBR.out k h1; omega))
    clear Hx1
    have Hx113 := hid (HB3.out.mod hr (by intro h2; omega))
    clear HB3
    clear hr
    refine QChain.go fun Z act E => ?_
    refine qc_callF (args := #[.pointer (some ⟨r, 0, none⟩), .int .i64 1099511627776]) rfl (wanted_none rfl) rfl Try.func63 (args2 (E.d 0) rfl) (cI_Q Hx112.out) ?_
    rintro e u27_1a ⟨rfl, qrd, hm⟩
    have zu27_1a := hm.size
    refine ⟨_, rfl, hm.mono (by intro k hk h; first | omega | exact Or.inl ⟨(by have hb := HBR.out k h; omega), Or.inl ⟨rfl, h⟩⟩), (fun _ => rfl), ?_⟩
    intro u27_1 hr
    have zu27_1 := hr.size
    have Hx114 := hid (qrd.mod hr (by intro k h1 h2; have hb := HBR.out k h1; omega))
    have hmr := hm.two hr
    have Hx115 := hid (Hx113.out.mod hmr (by intro h2; rcases h2 with h2 | h2 <;> first | omega | (have hb := HBR.out _ h2; omega)))
    clear Hx113
    clear hmr
    have Cx116 := hid (Cx111.out.goM hm hr (by intro k h0 h2; first | omega | exact Or.inl h2 | exact Or.inr (h2)))
    clear Cx111 hm hr Z act E qrd Hx112
    refine QChain.goP fun Z act E => ?_
    refine qc_callF (args := #[.pointer (some ⟨r, 0, none⟩), .int .i64 256]) rfl (wanted_none rfl) rfl Try.func109 (args2 (E.d 2) rfl) (cRow_Q Hx114.out) ?_
    rintro e u27_2a ⟨vr, rfl, qrow, qrd, hm⟩
    have zu27_2a := hm.size
    refine ⟨_, rfl, hm.mono (by intro k hk h; first | omega | exact Or.inl ⟨(by have hb := HBR.out k h; omega), Or.inr (Or.inl ⟨rfl, h⟩)⟩), (fun Z hZ => ⟨rfl, New u27_1 u27_2a, fun j hj => ⟨by omega, fun h => by omega, fun h => by have hz := hZ j h.2; (try dsimp only at hz); (try simp only [false_or] at hz); omega⟩, qrow⟩), ?_⟩
    clear qrow
    intro u27_2 hr
    have zu27_2 := hr.size
    have Hx117 := hid (qrd.mod hr (by intro k h1 h2; have hb := HBR.out k h1; omega))
    have hmr := hm.two hr
    have Hx118 := hid (Hx115.out.mod hmr (by intro h2; rcases h2 with h2 | h2 <;> first | omega | (have hb := HBR.out _ h2; omega)))
    clear Hx115
    clear hmr
    have Cx119 := hid (Cx116.out.goM hm hr (by intro k h0 h2; first | omega | exact Or.inl h2 | exact Or.inr (h2)))
    clear Cx116 hm hr Z act E qrd Hx114
    refine QChain.go fun Z act E => ?_
    refine qc_store rfl (wanted_none rfl) rfl Hx118.out (off := 212) (vs := [Value.int .i64 (gI s).1]) (by kernel_rfl) (by intro u hu; simp at hu; subst hu; rfl) (by rw [List.size_toArray, flat_sum, HLN.out]; show 212 + 1 ≤ 295; decide) (E.d 5) (by rw [show act.eval ((.tmp 79)) = _ from (E.d 1)]; rfl) ?_
    intro u27_3a qc0 hm
    have qB3 : Cs u27_3a (w.heap.size) ((Mg.segs ({ x with ix := (gI s).1 } : Mg) c5 c10 c11 c15 c18).flatten : List Value).toArray 109 := by rw [show lay _ 212 _ = ((Mg.segs ({ x with ix := (gI s).1 } : Mg) c5 c10 c11 c15 c18).flatten : List Value).toArray from (lay_seg HLN.out 13 (rfl) rfl).trans rfl] at qc0; exact qc0
    clear qc0
    have zu27_3a := hm.size
    refine ⟨hm.mono (by intro k hk h; omega), (fun _ => rfl), ?_⟩
    intro u27_3 hr
    have zu27_3 := hr.size
    have Hx120 := hid (qB3.mod hr (by intro h2; omega))
    have hmr := hm.two hr
    have Hx121 := hid (Hx117.out.mod hmr (by intro k h1 h2; have hb := HBR.out k h1; omega))
    clear Hx117
    clear hmr
    have Cx122 := hid (Cx119.out.goM hm hr (by intro k h0 h2; first | omega | exact Or.inl h2 | exact Or.inr (h2)))
    clear Cx119 hm hr Z act E qB3 Hx118
    refine QChain.go fun Z act E => ?_
    refine qc_store rfl (wanted_none rfl) rfl Hx120.out (off := 286) (vs := [Value.string (strOfNums (rRow 256 (gI s).2).1)]) (by kernel_rfl) (by intro u hu; simp at hu; subst hu; rfl) (by rw [List.size_toArray, flat_sum, (show (Mg.segs ({ x with ix := (gI s).1 } : Mg) c5 c10 c11 c15 c18).map List.length = mgN from HLN.out)]; show 286 + 1 ≤ 295; decide) (E.d 7) (by rw [show act.eval ((.tmp 82)) = _ from (E.d 4)]; rfl) ?_
    intro u27_4a qc0 hm
    have qB3 : Cs u27_4a (w.heap.size) ((Mg.segs ({ x with ix := (gI s).1, rp := strOfNums (rRow 256 (gI s).2).1 } : Mg) c5 c10 c11 c15 c18).flatten : List Value).toArray 109 := by rw [show lay _ 286 _ = ((Mg.segs ({ x with ix := (gI s).1, rp := strOfNums (rRow 256 (gI s).2).1 } : Mg) c5 c10 c11 c15 c18).flatten : List Value).toArray from (lay_seg (show (Mg.segs ({ x with ix := (gI s).1 } : Mg) c5 c10 c11 c15 c18).map List.length = mgN from HLN.out) 17 (rfl) rfl).trans rfl] at qc0; exact qc0
    clear qc0
    have zu27_4a := hm.size
    refine ⟨hm.mono (by intro k hk h; omega), (fun _ => rfl), ?_⟩
    intro u27_4 hr
    have zu27_4 := hr.size
    have Hx123 := hid (qB3.mod hr (by intro h2; omega))
    have hmr := hm.two hr
    have Hx124 := hid (Hx121.out.mod hmr (by intro k h1 h2; have hb := HBR.out k h1; omega))
    clear Hx121
    clear hmr
    have Cx125 := hid (Cx122.out.goM hm hr (by intro k h0 h2; first | omega | exact Or.inl h2 | exact Or.inr (h2)))
    clear Cx122 hm hr Z act E qB3 Hx120
    refine QChain.nil fun vs hl hzz hrows hne => ?_
    obtain ⟨Z, hYZ, hZb, hV⟩ := hzz
    have f0 := fvi hV hl 0
    have f1 := fvi hV hl 1
    have f2 := fvi hV hl 2
    have k3 := hV 3 _ (getq hl (by decide))
    rw [show vs = [gw vs 0, gw vs 1, gw vs 2, gw vs 3, gw vs 4, gw vs 5, gw vs 6, gw vs 7, gw vs 8] from (gw_eta hl).trans rfl]
    have ha0 := HA0.out
    subst ha0
    clear HA0 hV hYZ hZb hsz0 hrows hne oe0 oe3
    simp only [putAll, Act.put, List.setIfInBounds_toArray, List.set_cons_zero, List.set_cons_succ, List.set_nil, f0, f1, f2]
    clear hl f0 f1 f2
    have HLZ := hid (show (Mg.segs ({ x with ix := (gI s).1, rp := strOfNums (rRow 256 (gI s).2).1 } : Mg) c5 c10 c11 c15 c18).map List.length = mgN from Mg.lens (x := ({ x with ix := (gI s).1, rp := strOfNums (rRow 256 (gI s).2).1 } : Mg)) { HOK.out with ix := gI_I64 _ } HC5.out HC10.out HC11.out HC15.out HC18.out)
    have HSZ := hid (show ((Mg.segs ({ x with ix := (gI s).1, rp := strOfNums (rRow 256 (gI s).2).1 } : Mg) c5 c10 c11 c15 c18).flatten).length = 295 by rw [flat_sum, HLZ.out]; rfl)
    have HRM := hid (show MgR.rd (fun k => (R2 k)) u27_4 ((Mg.segs ({ x with ix := (gI s).1, rp := strOfNums (rRow 256 (gI s).2).1 } : Mg) c5 c10 c11 c15 c18).flatten) ({ x with ix := (gI s).1, rp := strOfNums (rRow 256 (gI s).2).1 } : Mg) from ⟨_, _, _, _, _, rfl, { HOK.out with ix := gI_I64 _ }, (Hx2.out.mod Cx125.out (by intro k h1 h2; rcases h2 with h2 | h2 <;> first | omega | (have hb := HBT.out k h1; omega) | (have hb := HBR.out k h2; omega) | exact HDJ.out k h1 h2 | exact HDJ.out k h2 h1 | (have hb := HBT.out k h1; have hb2 := HBR.out k h2; omega))), (Hx3.out.mod Cx125.out (by intro k h1 h2; rcases h2 with h2 | h2 <;> first | omega | (have hb := HBT.out k h1; omega) | (have hb := HBR.out k h2; omega) | exact HDJ.out k h1 h2 | exact HDJ.out k h2 h1 | (have hb := HBT.out k h1; have hb2 := HBR.out k h2; omega))), (Hx4.out.mod Cx125.out (by intro k h1 h2; rcases h2 with h2 | h2 <;> first | omega | (have hb := HBT.out k h1; omega) | (have hb := HBR.out k h2; omega) | exact HDJ.out k h1 h2 | exact HDJ.out k h2 h1 | (have hb := HBT.out k h1; have hb2 := HBR.out k h2; omega))), (Hx5.out.mod Cx125.out (by intro k h1 h2; rcases h2 with h2 | h2 <;> first | omega | (have hb := HBT.out k h1; omega) | (have hb := HBR.out k h2; omega) | exact HDJ.out k h1 h2 | exact HDJ.out k h2 h1 | (have hb := HBT.out k h1; have hb2 := HBR.out k h2; omega))), (Hx6.out.mod Cx125.out (by intro k h1 h2; rcases h2 with h2 | h2 <;> first | omega | (have hb := HBT.out k h1; omega) | (have hb := HBR.out k h2; omega) | exact HDJ.out k h1 h2 | exact HDJ.out k h2 h1 | (have hb := HBT.out k h1; have hb2 := HBR.out k h2; omega)))⟩)
    have HON := hid (MgR.one HRM.out)
    go_upto_region 30 with (fail)
    refine wp_region_U 98 [97, 99] [0, 1] (fun a0 HA0 => ?_)
    have oe3 := ev HA0 3 rfl
    have oe4 := ev HA0 4 rfl
    refine QSeq.pure rfl _ (fun E => ex_loadA rfl Try.underlying109 rfl (off := 0) (cs := ((Mg.segs ({ x with ix := (gI s).1, rp := strOfNums (rRow 256 (gI s).2).1 } : Mg) c5 c10 c11 c15 c18).flatten)) (by rw [HSZ.out]; kernel_rfl) (E.v oe3) (Cs.whole Hx123.out)) ?_
    refine QSeq.go fun act E => ?_
    refine qc_store rfl (wanted_none rfl) rfl (HB4.out.mod Cx125.out (by intro h2; rcases h2 with h2 | h2 <;> first | omega | (have hb := HBR.out _ h2; omega))) (off := 0) (vs := ((Mg.segs ({ x with ix := (gI s).1, rp := strOfNums (rRow 256 (gI s).2).1 } : Mg) c5 c10 c11 c15 c18).flatten)) (by rw [HSZ.out]; kernel_rfl) HON.out (by rw [HSZ.out]; show 0 + 295 ≤ 295; decide) (E.v oe4) (ec (E.d 0 0)) ?_
    intro u30_1 qc0 hm
    have qB4 := qc0.eqv (b := (((Mg.segs ({ x with ix := (gI s).1, rp := strOfNums (rRow 256 (gI s).2).1 } : Mg) c5 c10 c11 c15 c18).flatten) : List Value).toArray) (lay_whole _ _ (by rw [HSZ.out]; rfl))
    clear qc0
    have Hx126 := hid qB4
    have zu30_1 := hm.size
    have Cx127 := hid (show Mod (fun k => (k = w.heap.size + 1)) u27_4 u30_1 from hm)
    clear hm
    clear act E qB4 HB4
    refine QSeq.nil (t' := [_, _]) rfl ?_
    obtain rfl := HA0.out
    clear HA0 oe3 oe4
    simp only [pz, Act.put, List.setIfInBounds_toArray, List.set_cons_zero, List.set_cons_succ, List.set_nil]
    go_wp2
    exact bodyPost_ret (results_cellA rfl _ _ (w.heap.size + 1) ((Mg.segs ({ x with ix := (gI s).1, rp := strOfNums (rRow 256 (gI s).2).1 } : Mg) c5 c10 c11 c15 c18).flatten) rfl (fun k u hu => by rw [Hx126.out.cell]; simpa using hu) Try.underlying109 rfl (by rw [HSZ.out]; kernel_rfl)) rfl ⟨_, rfl, by rw [HE.out]; exact (HRM.out.mod Cx127.out (sB HBT)).widen (by intro k h1; first | exact Or.inl h1 | (right; omega)), by rw [HE.out]; exact (Hx124.out.mod Cx127.out (sB HBR)), ((HM0.out.trans Cx125.out (by intro k h1 h2; rcases h2 with h2 | h2 <;> first | exact h2 | omega | (have hb := HBR.out k h2; omega))).trans Cx127.out (by intro k h1 h2; first | exact h2 | omega))⟩
  have K13 := Lib.hid h13
  clear h13
  go_upto_region 26 with (fail)
  refine wp_region_U 98 [77, 76] [0, 1] (fun a0 HA0 => ?_)
  have oe6 := ev HA0 6 rfl
  refine QSeq.pure rfl (.bool false) (fun E => ex_binE rfl (E.v oe6) rfl (guard_ints _ _ _ _ _ _) (run_eql_i _ _ _ Try.underlying3) (congrArg Value.bool (eq_ff K13.out))) ?_
  refine QSeq.pure rfl _ (fun E => ex_assign rfl (E.d 0 0)) ?_
  refine QSeq.nil (t' := [_, _]) rfl ?_
  obtain rfl := HA0.out
  clear HA0 oe6
  simp only [pz, Act.put, List.setIfInBounds_toArray, List.set_cons_zero, List.set_cons_succ]
  by_cases h14 : x.kd = 14
  · have KK := Lib.hid h14
    clear h14
    go_upto_region 28 with (fail)
    refine wp_region_U 98 [86, 85] [0, 1] (fun a0 HA0 => ?_)
    have oe6 := ev HA0 6 rfl
    refine QSeq.pure rfl (.bool true) (fun E => ex_binE rfl (E.v oe6) rfl (guard_ints _ _ _ _ _ _) (run_eql_i _ _ _ Try.underlying3) (congrArg Value.bool (eq_tt KK.out))) ?_
    refine QSeq.pure rfl _ (fun E => ex_assign rfl (E.d 0 0)) ?_
    refine QSeq.nil (t' := [_, _]) rfl ?_
    obtain rfl := HA0.out
    clear HA0 oe6
    simp only [pz, Act.put, List.setIfInBounds_toArray, List.set_cons_zero, List.set_cons_succ]
    have HE := hid (show gBody x s = ({ x with dc := (Dc.mk (gI s).1 (gI (gI s).2).1 (gBa (gI (gI s).2).2).1 (gList gVt (gBa (gI (gI s).2).2).2).1) }, (gList gVt (gBa (gI (gI s).2).2).2).2) by unfold gBody; rw [KK.out]; rfl)
    go_upto_region 29 with (fail)
    refine wp_region_U 98 [87, 88, 89, 90, 91, 92, 93, 94, 95, 96, 108] [0, 1, 2, 3, 4, 5, 6, 7, 8, 9, 10] (fun a0 HA0 => ?_)
    have oe0 := ev HA0 0 rfl
    have oe3 := ev HA0 3 rfl
    refine QSeq.pure rfl _ (fun E => ex_move rfl (E.v oe0)) ?_
    refine QSeq.call rfl rfl Try.func63 (cI_Q Hx1.out) (fun E => args2 (E.d 0 0) rfl) ?_
    rintro e u29_1 ⟨rfl, qrd, hm⟩
    refine ⟨_, rfl, ?_⟩
    have Hx128 := hid qrd
    have zu29_1 := hm.size
    have Cx129 := hid (show Mod (fun k => (R k)) w1 u29_1 from hm)
    clear hm
    clear qrd Hx1
    refine QSeq.pure rfl _ (fun E => ex_move rfl (E.v oe0)) ?_
    refine QSeq.call rfl rfl Try.func63 (cI_Q Hx128.out) (fun E => args2 (E.d 2 0) rfl) ?_
    rintro e u29_3 ⟨rfl, qrd, hm⟩
    refine ⟨_, rfl, ?_⟩
    have Hx130 := hid qrd
    have zu29_3 := hm.size
    have HMu29_3 := hid hm
    have Cx131 := hid (Mod.goS (S' := (fun k => (R k))) Cx129.out hm (fun _ h => h) (by intro k h0 h2; exact h2))
    clear hm Cx129
    clear qrd Hx128
    refine QSeq.pure rfl _ (fun E => ex_move rfl (E.v oe0)) ?_
    refine QSeq.call rfl rfl Try.func110 (cBa_G _ _ _ _ Hx130.out (by intro k h1; have hb := HBR.out k h1; omega) (Nat.le_trans (gI_suf.len _) (Nat.le_trans (gI_suf.len _) HLE.out))) (fun E => args1 (E.d 4 0)) ?_
    rintro e u29_5 ⟨cb, rfl, qba, qrd, hm⟩
    obtain ⟨v1, v2, v3, rfl, hokb, qba, qbo, qbt⟩ := qba
    obtain ⟨aob0, capb0, rfl⟩ := qba.shape
    obtain ⟨aob1, capb1, rfl⟩ := qbo.shape
    obtain ⟨aob2, capb2, rfl⟩ := qbt.shape
    clear hokb
    refine ⟨_, rfl, ?_⟩
    have Hx132 := hid qba
    have Hx133 := hid qrd
    have Hx134 := hid qbo
    have Hx135 := hid qbt
    have zu29_5 := hm.size
    have HMu29_5 := hid hm
    have Cx136 := hid (Mod.goS (S' := (fun k => (R k))) Cx131.out hm (fun _ h => h) (by intro k h0 h2; exact h2))
    clear hm Cx131
    clear qba qrd qbo qbt Hx130
    refine QSeq.pure rfl _ (fun E => ex_move rfl (E.v oe0)) ?_
    refine QSeq.call rfl rfl Try.func111 (cList_Vt _ _ _ _ Hx133.out (by intro k h1; have hb := HBR.out k h1; omega) (Nat.le_trans (gBa_suf.len _) (Nat.le_trans (gI_suf.len _) (Nat.le_trans (gI_suf.len _) HLE.out)))) (fun E => args2 (E.d 6 0) rfl) ?_
    rintro e u29_7 ⟨vl, rfl, qvl, qrd, hm⟩
    obtain ⟨aol, capl, rfl⟩ := qvl.shape
    refine ⟨_, rfl, ?_⟩
    have Hx137 := hid qvl
    have Hx138 := hid qrd
    have zu29_7 := hm.size
    have HMu29_7 := hid hm
    have Cx139 := hid (Mod.goS (S' := (fun k => (R k))) Cx136.out hm (fun _ h => h) (by intro k h0 h2; exact h2))
    clear hm Cx136
    clear qvl qrd Hx133
    refine QSeq.go fun act E => ?_
    refine qc_run rfl (wanted_none rfl) (v := .agg (((Dc.mk (gI s).1 (gI (gI s).2).1 (gBa (gI (gI s).2).2).1 (gList gVt (gBa (gI (gI s).2).2).2).1).cells (Value.slice aob0 (gBa (gI (gI s).2).2).1.ps.length capb0) (Value.slice aob1 (gBa (gI (gI s).2).2).1.os.length capb1) (Value.slice aob2 (gBa (gI (gI s).2).2).1.ts.length capb2) (Value.slice aol (gList gVt (gBa (gI (gI s).2).2).2).1.length capl)) : List Value).toArray) (ex_build rfl (z := [.int .i64 0, .int .i64 0, .int .i64 0, .int .u64 0, .slice none 0 0, .slice none 0 0, .slice none 0 0, .slice none 0 0]) (places := [(0, 1), (1, 1), (2, 5), (7, 1)]) (by kernel_rfl) (parts := [(0, .int .i64 (gI s).1), (1, .int .i64 (gI (gI s).2).1), (2, .agg #[.int .i64 (gBa (gI (gI s).2).2).1.ep, .int .u64 ((gBa (gI (gI s).2).2).1.tm : Nat), Value.slice aob0 (gBa (gI (gI s).2).2).1.ps.length capb0, Value.slice aob1 (gBa (gI (gI s).2).2).1.os.length capb1, Value.slice aob2 (gBa (gI (gI s).2).2).1.ts.length capb2]), (3, .slice aol (gList gVt (gBa (gI (gI s).2).2).2).1.length capl)]) (by simp only [List.map_toArray, List.map_cons, List.map_nil, show act.eval (.tmp 88) = .int .i64 (gI s).1 from (E.d 1 6), show act.eval (.tmp 90) = .int .i64 (gI (gI s).2).1 from (E.d 3 4), show act.eval (.tmp 92) = .agg #[.int .i64 (gBa (gI (gI s).2).2).1.ep, .int .u64 ((gBa (gI (gI s).2).2).1.tm : Nat), Value.slice aob0 (gBa (gI (gI s).2).2).1.ps.length capb0, Value.slice aob1 (gBa (gI (gI s).2).2).1.os.length capb1, Value.slice aob2 (gBa (gI (gI s).2).2).1.ts.length capb2] from (E.d 5 2), show act.eval (.tmp 94) = .slice aol (gList gVt (gBa (gI (gI s).2).2).2).1.length capl from (E.d 7 0)]; try rfl) (r := ((Dc.mk (gI s).1 (gI (gI s).2).1 (gBa (gI (gI s).2).2).1 (gList gVt (gBa (gI (gI s).2).2).2).1).cells (Value.slice aob0 (gBa (gI (gI s).2).2).1.ps.length capb0) (Value.slice aob1 (gBa (gI (gI s).2).2).1.os.length capb1) (Value.slice aob2 (gBa (gI (gI s).2).2).1.ts.length capb2) (Value.slice aol (gList gVt (gBa (gI (gI s).2).2).2).1.length capl))) (by exact laid_segs (ns := [1, 1, 5, 1]) rfl [(0, .int .i64 (gI s).1), (1, .int .i64 (gI (gI s).2).1), (2, .agg #[.int .i64 (gBa (gI (gI s).2).2).1.ep, .int .u64 ((gBa (gI (gI s).2).2).1.tm : Nat), Value.slice aob0 (gBa (gI (gI s).2).2).1.ps.length capb0, Value.slice aob1 (gBa (gI (gI s).2).2).1.os.length capb1, Value.slice aob2 (gBa (gI (gI s).2).2).1.ts.length capb2]), (3, .slice aol (gList gVt (gBa (gI (gI s).2).2).2).1.length capl)] [[.int .i64 0], [.int .i64 0], [.int .i64 0, .int .u64 0, .slice none 0 0, .slice none 0 0, .slice none 0 0], [.slice none 0 0]] rfl ⟨rfl, rfl, rfl, rfl, trivial⟩)) ?_
    clear act E
    refine QSeq.pure rfl (.pointer (some ⟨w.heap.size, 287, none⟩)) (fun E => ex_field rfl Try.underlying109 rfl (by kernel_rfl) (E.v oe3)) ?_
    refine QSeq.go fun act E => ?_
    refine qc_store rfl (wanted_none rfl) rfl (HB3.out.mod Cx139.out (by intro h2; first | omega | (have hb := HBR.out _ h2; omega))) (off := 287) (vs := ((Dc.mk (gI s).1 (gI (gI s).2).1 (gBa (gI (gI s).2).2).1 (gList gVt (gBa (gI (gI s).2).2).2).1).cells (Value.slice aob0 (gBa (gI (gI s).2).2).1.ps.length capb0) (Value.slice aob1 (gBa (gI (gI s).2).2).1.os.length capb1) (Value.slice aob2 (gBa (gI (gI s).2).2).1.ts.length capb2) (Value.slice aol (gList gVt (gBa (gI (gI s).2).2).2).1.length capl))) (by kernel_rfl) (by intro u hu; simp only [Dc.cells, List.mem_cons, List.not_mem_nil, or_false] at hu; rcases hu with rfl | rfl | rfl | rfl | rfl | rfl | rfl | rfl <;> rfl) (by rw [List.size_toArray, flat_sum, HLN.out]; show 287 + 8 ≤ 295; decide) (E.d 9 0) (ec (E.d 8 1)) ?_
    intro u29_10 qc0 hm
    have qB3 := qc0.eqv (b := ((Mg.segs ({ x with dc := (Dc.mk (gI s).1 (gI (gI s).2).1 (gBa (gI (gI s).2).2).1 (gList gVt (gBa (gI (gI s).2).2).2).1) } : Mg) c5 c10 c11 c15 ((Dc.mk (gI s).1 (gI (gI s).2).1 (gBa (gI (gI s).2).2).1 (gList gVt (gBa (gI (gI s).2).2).2).1).cells (Value.slice aob0 (gBa (gI (gI s).2).2).1.ps.length capb0) (Value.slice aob1 (gBa (gI (gI s).2).2).1.os.length capb1) (Value.slice aob2 (gBa (gI (gI s).2).2).1.ts.length capb2) (Value.slice aol (gList gVt (gBa (gI (gI s).2).2).2).1.length capl))).flatten : List Value).toArray) ((lay_seg HLN.out 18 (rfl) rfl).trans rfl)
    clear qc0
    have Hx140 := hid qB3
    have zu29_10 := hm.size
    have HMu29_10 := hid hm
    have Cx141 := hid (Mod.goS (S' := (fun k => (R k) ∨ (k = w.heap.size))) Cx139.out hm (fun _ h => Or.inl h) (by intro k h0 h2; exact Or.inr (h2)))
    clear hm Cx139
    clear act E qB3 HB3
    have Hx142 := hid (Hx138.out.mod HMu29_10.out (sB HBR))
    have Hx143 := hid ((Hx132.out.mod HMu29_7.out (by intro k h1 h2; have hb := HBR.out k h2; omega)).mod HMu29_10.out (by intro k h1 h2; omega))
    have Hx144 := hid ((Hx134.out.mod HMu29_7.out (by intro k h1 h2; have hb := HBR.out k h2; omega)).mod HMu29_10.out (by intro k h1 h2; omega))
    have Hx145 := hid ((Hx135.out.mod HMu29_7.out (by intro k h1 h2; have hb := HBR.out k h2; omega)).mod HMu29_10.out (by intro k h1 h2; omega))
    have Hx146 := hid (Hx137.out.mod HMu29_10.out (by intro k h1 h2; omega))
    clear Hx138 Hx132 Hx134 Hx135 Hx137 HMu29_3 HMu29_5 HMu29_7 HMu29_10
    refine QSeq.nil (t' := [_, _, _, _, _, _, _, _, _, _, _]) rfl ?_
    obtain rfl := HA0.out
    clear HA0 oe0 oe3
    simp only [pz, Act.put, List.setIfInBounds_toArray, List.set_cons_zero, List.set_cons_succ, List.set_nil]
    have HDN := hid (show DcR.rd (fun k => (New u29_3 u29_5 k) ∨ (New u29_5 u29_7 k)) u29_10 ((Dc.mk (gI s).1 (gI (gI s).2).1 (gBa (gI (gI s).2).2).1 (gList gVt (gBa (gI (gI s).2).2).2).1).cells (Value.slice aob0 (gBa (gI (gI s).2).2).1.ps.length capb0) (Value.slice aob1 (gBa (gI (gI s).2).2).1.os.length capb1) (Value.slice aob2 (gBa (gI (gI s).2).2).1.ts.length capb2) (Value.slice aol (gList gVt (gBa (gI (gI s).2).2).2).1.length capl)) (Dc.mk (gI s).1 (gI (gI s).2).1 (gBa (gI (gI s).2).2).1 (gList gVt (gBa (gI (gI s).2).2).2).1) from ⟨_, _, _, _, rfl, ⟨gI_I64 _, gI_I64 _, gBa_OK (gI_suf.bytes (gI_suf.bytes HBY.out))⟩, Hx143.out.widen (by intro k h1; first | omega | exact h1.elim | exact Or.inl h1 | exact Or.inr (h1)), Hx144.out.widen (by intro k h1; first | omega | exact h1.elim | exact Or.inl h1 | exact Or.inr (h1)), Hx145.out.widen (by intro k h1; first | omega | exact h1.elim | exact Or.inl h1 | exact Or.inr (h1)), Hx146.out.widen (by intro k h1; first | omega | exact h1.elim | exact Or.inl h1 | exact Or.inr (h1))⟩)
    have HLZ := hid (show (Mg.segs ({ x with dc := (Dc.mk (gI s).1 (gI (gI s).2).1 (gBa (gI (gI s).2).2).1 (gList gVt (gBa (gI (gI s).2).2).2).1) } : Mg) c5 c10 c11 c15 ((Dc.mk (gI s).1 (gI (gI s).2).1 (gBa (gI (gI s).2).2).1 (gList gVt (gBa (gI (gI s).2).2).2).1).cells (Value.slice aob0 (gBa (gI (gI s).2).2).1.ps.length capb0) (Value.slice aob1 (gBa (gI (gI s).2).2).1.os.length capb1) (Value.slice aob2 (gBa (gI (gI s).2).2).1.ts.length capb2) (Value.slice aol (gList gVt (gBa (gI (gI s).2).2).2).1.length capl))).map List.length = mgN from Mg.lens (x := ({ x with dc := (Dc.mk (gI s).1 (gI (gI s).2).1 (gBa (gI (gI s).2).2).1 (gList gVt (gBa (gI (gI s).2).2).2).1) } : Mg)) { HOK.out with } HC5.out HC10.out HC11.out HC15.out rfl)
    have HSZ := hid (show ((Mg.segs ({ x with dc := (Dc.mk (gI s).1 (gI (gI s).2).1 (gBa (gI (gI s).2).2).1 (gList gVt (gBa (gI (gI s).2).2).2).1) } : Mg) c5 c10 c11 c15 ((Dc.mk (gI s).1 (gI (gI s).2).1 (gBa (gI (gI s).2).2).1 (gList gVt (gBa (gI (gI s).2).2).2).1).cells (Value.slice aob0 (gBa (gI (gI s).2).2).1.ps.length capb0) (Value.slice aob1 (gBa (gI (gI s).2).2).1.os.length capb1) (Value.slice aob2 (gBa (gI (gI s).2).2).1.ts.length capb2) (Value.slice aol (gList gVt (gBa (gI (gI s).2).2).2).1.length capl))).flatten).length = 295 by rw [flat_sum, HLZ.out]; rfl)
    have HRM := hid (show MgR.rd (fun k => (R2 k) ∨ (New u29_3 u29_5 k) ∨ (New u29_5 u29_7 k)) u29_10 ((Mg.segs ({ x with dc := (Dc.mk (gI s).1 (gI (gI s).2).1 (gBa (gI (gI s).2).2).1 (gList gVt (gBa (gI (gI s).2).2).2).1) } : Mg) c5 c10 c11 c15 ((Dc.mk (gI s).1 (gI (gI s).2).1 (gBa (gI (gI s).2).2).1 (gList gVt (gBa (gI (gI s).2).2).2).1).cells (Value.slice aob0 (gBa (gI (gI s).2).2).1.ps.length capb0) (Value.slice aob1 (gBa (gI (gI s).2).2).1.os.length capb1) (Value.slice aob2 (gBa (gI (gI s).2).2).1.ts.length capb2) (Value.slice aol (gList gVt (gBa (gI (gI s).2).2).2).1.length capl))).flatten) ({ x with dc := (Dc.mk (gI s).1 (gI (gI s).2).1 (gBa (gI (gI s).2).2).1 (gList gVt (gBa (gI (gI s).2).2).2).1) } : Mg) from ⟨_, _, _, _, _, rfl, { HOK.out with }, ((Hx2.out.mod Cx141.out (by intro k h1 h2; rcases h2 with h2 | h2 <;> first | omega | (have hb := HBT.out k h1; omega) | (have hb := HBR.out k h2; omega) | exact HDJ.out k h1 h2 | exact HDJ.out k h2 h1 | (have hb := HBT.out k h1; have hb2 := HBR.out k h2; omega))).widen (by intro k h1; first | omega | exact h1.elim | exact Or.inl h1 | exact Or.inr (Or.inl h1) | exact Or.inr (Or.inr (h1)))), ((Hx3.out.mod Cx141.out (by intro k h1 h2; rcases h2 with h2 | h2 <;> first | omega | (have hb := HBT.out k h1; omega) | (have hb := HBR.out k h2; omega) | exact HDJ.out k h1 h2 | exact HDJ.out k h2 h1 | (have hb := HBT.out k h1; have hb2 := HBR.out k h2; omega))).widen (by intro k h1; first | omega | exact h1.elim | exact Or.inl h1 | exact Or.inr (Or.inl h1) | exact Or.inr (Or.inr (h1)))), ((Hx4.out.mod Cx141.out (by intro k h1 h2; rcases h2 with h2 | h2 <;> first | omega | (have hb := HBT.out k h1; omega) | (have hb := HBR.out k h2; omega) | exact HDJ.out k h1 h2 | exact HDJ.out k h2 h1 | (have hb := HBT.out k h1; have hb2 := HBR.out k h2; omega))).widen (by intro k h1; first | omega | exact h1.elim | exact Or.inl h1 | exact Or.inr (Or.inl h1) | exact Or.inr (Or.inr (h1)))), ((Hx5.out.mod Cx141.out (by intro k h1 h2; rcases h2 with h2 | h2 <;> first | omega | (have hb := HBT.out k h1; omega) | (have hb := HBR.out k h2; omega) | exact HDJ.out k h1 h2 | exact HDJ.out k h2 h1 | (have hb := HBT.out k h1; have hb2 := HBR.out k h2; omega))).widen (by intro k h1; first | omega | exact h1.elim | exact Or.inl h1 | exact Or.inr (Or.inl h1) | exact Or.inr (Or.inr (h1)))), (HDN.out.widen (by intro k h1; rcases h1 with h1 | h1 <;> first | omega | exact h1.elim | exact Or.inl h1 | exact Or.inr (Or.inl h1) | exact Or.inr (Or.inr (h1))))⟩)
    have HON := hid (MgR.one HRM.out)
    go_upto_region 30 with (fail)
    refine wp_region_U 98 [97, 99] [0, 1] (fun a0 HA0 => ?_)
    have oe3 := ev HA0 3 rfl
    have oe4 := ev HA0 4 rfl
    refine QSeq.pure rfl _ (fun E => ex_loadA rfl Try.underlying109 rfl (off := 0) (cs := ((Mg.segs ({ x with dc := (Dc.mk (gI s).1 (gI (gI s).2).1 (gBa (gI (gI s).2).2).1 (gList gVt (gBa (gI (gI s).2).2).2).1) } : Mg) c5 c10 c11 c15 ((Dc.mk (gI s).1 (gI (gI s).2).1 (gBa (gI (gI s).2).2).1 (gList gVt (gBa (gI (gI s).2).2).2).1).cells (Value.slice aob0 (gBa (gI (gI s).2).2).1.ps.length capb0) (Value.slice aob1 (gBa (gI (gI s).2).2).1.os.length capb1) (Value.slice aob2 (gBa (gI (gI s).2).2).1.ts.length capb2) (Value.slice aol (gList gVt (gBa (gI (gI s).2).2).2).1.length capl))).flatten)) (by rw [HSZ.out]; kernel_rfl) (E.v oe3) (Cs.whole Hx140.out)) ?_
    refine QSeq.go fun act E => ?_
    refine qc_store rfl (wanted_none rfl) rfl (HB4.out.mod Cx141.out (by intro h2; rcases h2 with h2 | h2 <;> first | omega | (have hb := HBR.out _ h2; omega))) (off := 0) (vs := ((Mg.segs ({ x with dc := (Dc.mk (gI s).1 (gI (gI s).2).1 (gBa (gI (gI s).2).2).1 (gList gVt (gBa (gI (gI s).2).2).2).1) } : Mg) c5 c10 c11 c15 ((Dc.mk (gI s).1 (gI (gI s).2).1 (gBa (gI (gI s).2).2).1 (gList gVt (gBa (gI (gI s).2).2).2).1).cells (Value.slice aob0 (gBa (gI (gI s).2).2).1.ps.length capb0) (Value.slice aob1 (gBa (gI (gI s).2).2).1.os.length capb1) (Value.slice aob2 (gBa (gI (gI s).2).2).1.ts.length capb2) (Value.slice aol (gList gVt (gBa (gI (gI s).2).2).2).1.length capl))).flatten)) (by rw [HSZ.out]; kernel_rfl) HON.out (by rw [HSZ.out]; show 0 + 295 ≤ 295; decide) (E.v oe4) (ec (E.d 0 0)) ?_
    intro u30_1 qc0 hm
    have qB4 := qc0.eqv (b := (((Mg.segs ({ x with dc := (Dc.mk (gI s).1 (gI (gI s).2).1 (gBa (gI (gI s).2).2).1 (gList gVt (gBa (gI (gI s).2).2).2).1) } : Mg) c5 c10 c11 c15 ((Dc.mk (gI s).1 (gI (gI s).2).1 (gBa (gI (gI s).2).2).1 (gList gVt (gBa (gI (gI s).2).2).2).1).cells (Value.slice aob0 (gBa (gI (gI s).2).2).1.ps.length capb0) (Value.slice aob1 (gBa (gI (gI s).2).2).1.os.length capb1) (Value.slice aob2 (gBa (gI (gI s).2).2).1.ts.length capb2) (Value.slice aol (gList gVt (gBa (gI (gI s).2).2).2).1.length capl))).flatten) : List Value).toArray) (lay_whole _ _ (by rw [HSZ.out]; rfl))
    clear qc0
    have Hx147 := hid qB4
    have zu30_1 := hm.size
    have Cx148 := hid (show Mod (fun k => (k = w.heap.size + 1)) u29_10 u30_1 from hm)
    clear hm
    clear act E qB4 HB4
    refine QSeq.nil (t' := [_, _]) rfl ?_
    obtain rfl := HA0.out
    clear HA0 oe3 oe4
    simp only [pz, Act.put, List.setIfInBounds_toArray, List.set_cons_zero, List.set_cons_succ, List.set_nil]
    go_wp2
    exact bodyPost_ret (results_cellA rfl _ _ (w.heap.size + 1) ((Mg.segs ({ x with dc := (Dc.mk (gI s).1 (gI (gI s).2).1 (gBa (gI (gI s).2).2).1 (gList gVt (gBa (gI (gI s).2).2).2).1) } : Mg) c5 c10 c11 c15 ((Dc.mk (gI s).1 (gI (gI s).2).1 (gBa (gI (gI s).2).2).1 (gList gVt (gBa (gI (gI s).2).2).2).1).cells (Value.slice aob0 (gBa (gI (gI s).2).2).1.ps.length capb0) (Value.slice aob1 (gBa (gI (gI s).2).2).1.os.length capb1) (Value.slice aob2 (gBa (gI (gI s).2).2).1.ts.length capb2) (Value.slice aol (gList gVt (gBa (gI (gI s).2).2).2).1.length capl))).flatten) rfl (fun k u hu => by rw [Hx147.out.cell]; simpa using hu) Try.underlying109 rfl (by rw [HSZ.out]; kernel_rfl)) rfl ⟨_, rfl, by rw [HE.out]; exact (HRM.out.mod Cx148.out (by intro k h1 h2; rcases h1 with h1 | h1 | h1 <;> first | omega | (have hb := HBT.out k h1; omega))).widen (by intro k h1; rcases h1 with h1 | h1 | h1 <;> first | exact Or.inl h1 | (right; omega)), by rw [HE.out]; exact (Hx142.out.mod Cx148.out (sB HBR)), ((HM0.out.trans Cx141.out (by intro k h1 h2; rcases h2 with h2 | h2 <;> first | exact h2 | omega | (have hb := HBR.out k h2; omega))).trans Cx148.out (by intro k h1 h2; first | exact h2 | omega))⟩
  have K14 := Lib.hid h14
  clear h14
  go_upto_region 28 with (fail)
  refine wp_region_U 98 [86, 85] [0, 1] (fun a0 HA0 => ?_)
  have oe6 := ev HA0 6 rfl
  refine QSeq.pure rfl (.bool false) (fun E => ex_binE rfl (E.v oe6) rfl (guard_ints _ _ _ _ _ _) (run_eql_i _ _ _ Try.underlying3) (congrArg Value.bool (eq_ff K14.out))) ?_
  refine QSeq.pure rfl _ (fun E => ex_assign rfl (E.d 0 0)) ?_
  refine QSeq.nil (t' := [_, _]) rfl ?_
  obtain rfl := HA0.out
  clear HA0 oe6
  simp only [pz, Act.put, List.setIfInBounds_toArray, List.set_cons_zero, List.set_cons_succ]
  have HE := hid (show gBody x s = (x, s) by unfold gBody; rw [if_neg K1.out, if_neg K2.out, if_neg K3.out, if_neg K4.out, if_neg K5.out, if_neg K6.out, if_neg K7.out, if_neg K8.out, if_neg K9.out, if_neg K10.out, if_neg K11.out, if_neg K12.out, if_neg K13.out, if_neg K14.out])
  have HLZ := hid (show (Mg.segs x c5 c10 c11 c15 c18).map List.length = mgN from Mg.lens (x := x) HOK.out HC5.out HC10.out HC11.out HC15.out HC18.out)
  have HSZ := hid (show ((Mg.segs x c5 c10 c11 c15 c18).flatten).length = 295 by rw [flat_sum, HLZ.out]; rfl)
  have HRM := hid (show MgR.rd (fun k => (R2 k)) w1 ((Mg.segs x c5 c10 c11 c15 c18).flatten) x from ⟨_, _, _, _, _, rfl, HOK.out, Hx2.out, Hx3.out, Hx4.out, Hx5.out, Hx6.out⟩)
  have HON := hid (MgR.one HRM.out)
  go_upto_region 30 with (fail)
  refine wp_region_U 98 [97, 99] [0, 1] (fun a0 HA0 => ?_)
  have oe3 := ev HA0 3 rfl
  have oe4 := ev HA0 4 rfl
  refine QSeq.pure rfl _ (fun E => ex_loadA rfl Try.underlying109 rfl (off := 0) (cs := ((Mg.segs x c5 c10 c11 c15 c18).flatten)) (by rw [HSZ.out]; kernel_rfl) (E.v oe3) (Cs.whole HB3.out)) ?_
  refine QSeq.go fun act E => ?_
  refine qc_store rfl (wanted_none rfl) rfl HB4.out (off := 0) (vs := ((Mg.segs x c5 c10 c11 c15 c18).flatten)) (by rw [HSZ.out]; kernel_rfl) HON.out (by rw [HSZ.out]; show 0 + 295 ≤ 295; decide) (E.v oe4) (ec (E.d 0 0)) ?_
  intro u30_1 qc0 hm
  have qB4 := qc0.eqv (b := (((Mg.segs x c5 c10 c11 c15 c18).flatten) : List Value).toArray) (lay_whole _ _ (by rw [HSZ.out]; rfl))
  clear qc0
  have Hx149 := hid qB4
  have zu30_1 := hm.size
  have Cx150 := hid (show Mod (fun k => (k = w.heap.size + 1)) w1 u30_1 from hm)
  clear hm
  clear act E qB4 HB4
  refine QSeq.nil (t' := [_, _]) rfl ?_
  obtain rfl := HA0.out
  clear HA0 oe3 oe4
  simp only [pz, Act.put, List.setIfInBounds_toArray, List.set_cons_zero, List.set_cons_succ, List.set_nil]
  go_wp2
  exact bodyPost_ret (results_cellA rfl _ _ (w.heap.size + 1) ((Mg.segs x c5 c10 c11 c15 c18).flatten) rfl (fun k u hu => by rw [Hx149.out.cell]; simpa using hu) Try.underlying109 rfl (by rw [HSZ.out]; kernel_rfl)) rfl ⟨_, rfl, by rw [HE.out]; exact (HRM.out.mod Cx150.out (sB HBT)).widen (by intro k h1; first | exact Or.inl h1 | (right; omega)), by rw [HE.out]; exact (Hx1.out.mod Cx150.out (sB HBR)), (HM0.out.trans Cx150.out (by intro k h1 h2; first | exact h2 | omega))⟩
end Go.Proofs.Ytpnikilkcifncaa

/- What is read of a message was packed so; what was packed is read as it was, but for what its kind does not name. No walk here. -/
namespace Go.Proofs.Ytpnikilkcifncaa
open Go Go.RowKit Go.Gv

theorem bytesOf_str {b : List Int} (h : Bytes b) : bytesOf (strOfNums b) = b := by
  unfold bytesOf strOfNums
  simp only [List.map_map]
  conv => rhs; rw [← List.map_id b]
  refine List.map_congr_left fun x hx => ?_
  have := h x hx
  simp only [Function.comp, UInt8.toNat_ofNat', id]
  omega
theorem str_bytesOf (s : ByteArray) : strOfNums (bytesOf s) = s := by
  unfold bytesOf strOfNums
  congr 1
  simp only [List.map_map]
  apply Array.toList_inj.1
  show List.map _ s.data.toList = s.data.toList
  conv => rhs; rw [← List.map_id s.data.toList]
  refine List.map_congr_left fun x hx => ?_
  simp [Function.comp]
theorem rNum_de2 : De rNum (Was encN (· < U64)) := rNum_de
theorem rRowB_de : De (rRow 256) (Was (fun b => encN b.length ++ b) (fun b => (b.length : Int) ≤ 256 ∧ Bytes b)) := by
  intro s r h
  obtain ⟨l, rfl, h2⟩ := rRow_de 256 (by decide) s r h
  refine ⟨l, rfl, fun hb => ?_⟩
  obtain ⟨h3, h4⟩ := h2 hb
  exact ⟨h3, h4, fun x hx => hb x (by rw [h3]; simp [hx])⟩
def PrOk (x : Pr) : Prop := UpI x.ep ∧ UpI x.rn ∧ UpI (x.vl + 1) ∧ UpI x.rp ∧ BaOk x.ba ∧ UpI x.sb ∧ UpI x.mr
theorem vl_wrap {v : Int} (h : UpI (v + 1)) : IntKind.i64.wrap (v + 1) = v + 1 := IntWalk.i64_in _ (by unfold UpI at h; omega)
theorem gPr_ed : Ed gPr prB PrOk := by
  intro x r h
  obtain ⟨he, hn, hv, hp, hb, h1, h2⟩ := h
  obtain ⟨ep, rn, vl, rp, ba, sb, mr⟩ := x
  simp only [gPr, gb, prB, ← sgB_sig, List.append_assoc, vl_wrap hv, gI_ed _ _ he, gI_ed _ _ hn, gI_ed _ _ hv, gI_ed _ _ hp, gBa_ed _ _ hb, gSig_ed (sb, mr) _ ⟨h1, h2⟩]
  congr 2
  omega
theorem gPr_de : De gPr (Was prB PrOk) := by
  refine (De.bind gI_de fun _ => De.bind gI_de fun _ => De.bind gI_de fun _ => De.bind gI_de fun _ => De.bind gBa_de fun _ => De.bind gSig_de fun _ => De.pure _).mono ?_
  rintro y l r ⟨a0, l0, h0, rfl, a1, l1, h1, rfl, a2, l2, h2, rfl, a3, l3, h3, rfl, a4, l4, h4, rfl, a5, l5, h5, rfl, rfl, rfl⟩
  have e : a2 - 1 + 1 = a2 := by omega
  have h2' : UpI (a2 - 1 + 1) := by rw [e]; exact h2
  refine ⟨?_, h0, h1, h2', h3, h4, h5.1, h5.2⟩
  have e2 : IntKind.i64.wrap (a2 - 1 + 1) = a2 := (vl_wrap h2').trans e
  simp only [prB, ← sgB_sig, List.append_assoc, e2]
/-- what a message's kind names is within bounds -/
def BodyOk (x : Mg) : Prop :=
  if x.kd = 1 then CmOk x.cm else
  if x.kd = 2 then StOk x.st else
  if x.kd = 3 then CeOk x.ce else
  if x.kd = 4 then StOk x.ak else
  if x.kd = 5 then UpI x.ep ∧ UpI x.rn ∧ x.tm < U64 else
  if x.kd = 6 then PmOk x.pm else
  if x.kd = 7 then PrOk x.pr else
  if x.kd = 8 then VtOk x.vt else
  if x.kd = 9 then UpI x.ix ∧ EnOk x.en else
  if x.kd = 10 then OpOk x.op else
  if x.kd = 11 then UpI x.ix else
  if x.kd = 12 then DnOk x.dn else
  if x.kd = 13 then UpI x.ix ∧ ((bytesOf x.rp).length : Int) ≤ 256 else
  if x.kd = 14 then UpI x.dc.ep ∧ UpI x.dc.rn ∧ BaOk x.dc.ba ∧ listOk VtOk x.dc.l else
  True
/-- a message with what its kind names alone -/
def onlyM (x : Mg) : Mg :=
  if x.kd = 1 then { mg0 x.kd x.fr x.to with cm := x.cm } else
  if x.kd = 2 then { mg0 x.kd x.fr x.to with st := x.st } else
  if x.kd = 3 then { mg0 x.kd x.fr x.to with ce := x.ce } else
  if x.kd = 4 then { mg0 x.kd x.fr x.to with ak := x.ak } else
  if x.kd = 5 then { mg0 x.kd x.fr x.to with ep := x.ep, rn := x.rn, tm := x.tm } else
  if x.kd = 6 then { mg0 x.kd x.fr x.to with pm := x.pm } else
  if x.kd = 7 then { mg0 x.kd x.fr x.to with pr := x.pr } else
  if x.kd = 8 then { mg0 x.kd x.fr x.to with vt := x.vt } else
  if x.kd = 9 then { mg0 x.kd x.fr x.to with ix := x.ix, en := x.en } else
  if x.kd = 10 then { mg0 x.kd x.fr x.to with op := x.op } else
  if x.kd = 11 then { mg0 x.kd x.fr x.to with ix := x.ix } else
  if x.kd = 12 then { mg0 x.kd x.fr x.to with dn := x.dn } else
  if x.kd = 13 then { mg0 x.kd x.fr x.to with ix := x.ix, rp := x.rp } else
  if x.kd = 14 then { mg0 x.kd x.fr x.to with dc := x.dc } else
  zMg
theorem bodyOk_de (m : Mg) : De (gBody m) (fun y l r => l = bodyB y ++ r ∧ BodyOk y ∧ y.kd = m.kd ∧ y.fr = m.fr ∧ y.to = m.to) := by
  by_cases h1 : m.kd = 1
  · rw [show gBody m = gb gCm (fun a0 s => ({ m with cm := a0 }, s)) from funext fun s => by unfold gBody; rw [if_pos h1]]
    refine (De.bind gCm_de fun _ => De.pure _).mono ?_
    rintro y l r ⟨a0, l0, k0, rfl, rfl, rfl⟩
    refine ⟨?_, ?_, rfl, rfl, rfl⟩
    · rw [show bodyB _ = cmB a0 by unfold bodyB; dsimp only; rw [h1]; rfl]
    · rw [show BodyOk _ = (CmOk a0) by unfold BodyOk; dsimp only; rw [h1]; rfl]
      exact k0
  by_cases h2 : m.kd = 2
  · rw [show gBody m = gb gSt (fun a0 s => ({ m with st := a0 }, s)) from funext fun s => by unfold gBody; rw [if_neg h1, if_pos h2]]
    refine (De.bind gSt_de fun _ => De.pure _).mono ?_
    rintro y l r ⟨a0, l0, k0, rfl, rfl, rfl⟩
    refine ⟨?_, ?_, rfl, rfl, rfl⟩
    · rw [show bodyB _ = stB a0 by unfold bodyB; dsimp only; rw [h2]; rfl]
    · rw [show BodyOk _ = (StOk a0) by unfold BodyOk; dsimp only; rw [h2]; rfl]
      exact k0
  by_cases h3 : m.kd = 3
  · rw [show gBody m = gb gCe (fun a0 s => ({ m with ce := a0 }, s)) from funext fun s => by unfold gBody; rw [if_neg h1, if_neg h2, if_pos h3]]
    refine (De.bind gCe_de fun _ => De.pure _).mono ?_
    rintro y l r ⟨a0, l0, k0, rfl, rfl, rfl⟩
    refine ⟨?_, ?_, rfl, rfl, rfl⟩
    · rw [show bodyB _ = ceB a0 by unfold bodyB; dsimp only; rw [h3]; rfl]
    · rw [show BodyOk _ = (CeOk a0) by unfold BodyOk; dsimp only; rw [h3]; rfl]
      exact k0
  by_cases h4 : m.kd = 4
  · rw [show gBody m = gb gSt (fun a0 s => ({ m with ak := a0 }, s)) from funext fun s => by unfold gBody; rw [if_neg h1, if_neg h2, if_neg h3, if_pos h4]]
    refine (De.bind gSt_de fun _ => De.pure _).mono ?_
    rintro y l r ⟨a0, l0, k0, rfl, rfl, rfl⟩
    refine ⟨?_, ?_, rfl, rfl, rfl⟩
    · rw [show bodyB _ = stB a0 by unfold bodyB; dsimp only; rw [h4]; rfl]
    · rw [show BodyOk _ = (StOk a0) by unfold BodyOk; dsimp only; rw [h4]; rfl]
      exact k0
  by_cases h5 : m.kd = 5
  · rw [show gBody m = gb gI (fun a0 => gb gI (fun a1 => gb rNum (fun a2 s => ({ m with ep := a0, rn := a1, tm := a2 }, s)))) from funext fun s => by unfold gBody; rw [if_neg h1, if_neg h2, if_neg h3, if_neg h4, if_pos h5]]
    refine (De.bind gI_de fun _ => De.bind gI_de fun _ => De.bind rNum_de2 fun _ => De.pure _).mono ?_
    rintro y l r ⟨a0, l0, k0, rfl, a1, l1, k1, rfl, a2, l2, k2, rfl, rfl, rfl⟩
    refine ⟨?_, ?_, rfl, rfl, rfl⟩
    · rw [show bodyB _ = encI a0 ++ encI a1 ++ encN a2 by unfold bodyB; dsimp only; rw [h5]; rfl]
      simp only [List.append_assoc]
    · rw [show BodyOk _ = (UpI a0 ∧ UpI a1 ∧ a2 < U64) by unfold BodyOk; dsimp only; rw [h5]; rfl]
      exact ⟨k0, k1, k2⟩
  by_cases h6 : m.kd = 6
  · rw [show gBody m = gb gPm (fun a0 s => ({ m with pm := a0 }, s)) from funext fun s => by unfold gBody; rw [if_neg h1, if_neg h2, if_neg h3, if_neg h4, if_neg h5, if_pos h6]]
    refine (De.bind gPm_de fun _ => De.pure _).mono ?_
    rintro y l r ⟨a0, l0, k0, rfl, rfl, rfl⟩
    refine ⟨?_, ?_, rfl, rfl, rfl⟩
    · rw [show bodyB _ = pmB a0 by unfold bodyB; dsimp only; rw [h6]; rfl]
    · rw [show BodyOk _ = (PmOk a0) by unfold BodyOk; dsimp only; rw [h6]; rfl]
      exact k0
  by_cases h7 : m.kd = 7
  · rw [show gBody m = gb gPr (fun a0 s => ({ m with pr := a0 }, s)) from funext fun s => by unfold gBody; rw [if_neg h1, if_neg h2, if_neg h3, if_neg h4, if_neg h5, if_neg h6, if_pos h7]]
    refine (De.bind gPr_de fun _ => De.pure _).mono ?_
    rintro y l r ⟨a0, l0, k0, rfl, rfl, rfl⟩
    refine ⟨?_, ?_, rfl, rfl, rfl⟩
    · rw [show bodyB _ = prB a0 by unfold bodyB; dsimp only; rw [h7]; rfl]
    · rw [show BodyOk _ = (PrOk a0) by unfold BodyOk; dsimp only; rw [h7]; rfl]
      exact k0
  by_cases h8 : m.kd = 8
  · rw [show gBody m = gb gVt (fun a0 s => ({ m with vt := a0 }, s)) from funext fun s => by unfold gBody; rw [if_neg h1, if_neg h2, if_neg h3, if_neg h4, if_neg h5, if_neg h6, if_neg h7, if_pos h8]]
    refine (De.bind gVt_de fun _ => De.pure _).mono ?_
    rintro y l r ⟨a0, l0, k0, rfl, rfl, rfl⟩
    refine ⟨?_, ?_, rfl, rfl, rfl⟩
    · rw [show bodyB _ = vtB a0 by unfold bodyB; dsimp only; rw [h8]; rfl]
    · rw [show BodyOk _ = (VtOk a0) by unfold BodyOk; dsimp only; rw [h8]; rfl]
      exact k0
  by_cases h9 : m.kd = 9
  · rw [show gBody m = gb gI (fun a0 => gb gEn (fun a1 s => ({ m with ix := a0, en := a1 }, s))) from funext fun s => by unfold gBody; rw [if_neg h1, if_neg h2, if_neg h3, if_neg h4, if_neg h5, if_neg h6, if_neg h7, if_neg h8, if_pos h9]]
    refine (De.bind gI_de fun _ => De.bind gEn_de fun _ => De.pure _).mono ?_
    rintro y l r ⟨a0, l0, k0, rfl, a1, l1, k1, rfl, rfl, rfl⟩
    refine ⟨?_, ?_, rfl, rfl, rfl⟩
    · rw [show bodyB _ = encI a0 ++ enB a1 by unfold bodyB; dsimp only; rw [h9]; rfl]
      simp only [List.append_assoc]
    · rw [show BodyOk _ = (UpI a0 ∧ EnOk a1) by unfold BodyOk; dsimp only; rw [h9]; rfl]
      exact ⟨k0, k1⟩
  by_cases h10 : m.kd = 10
  · rw [show gBody m = gb gOp (fun a0 s => ({ m with op := a0 }, s)) from funext fun s => by unfold gBody; rw [if_neg h1, if_neg h2, if_neg h3, if_neg h4, if_neg h5, if_neg h6, if_neg h7, if_neg h8, if_neg h9, if_pos h10]]
    refine (De.bind gOp_de fun _ => De.pure _).mono ?_
    rintro y l r ⟨a0, l0, k0, rfl, rfl, rfl⟩
    refine ⟨?_, ?_, rfl, rfl, rfl⟩
    · rw [show bodyB _ = opB a0 by unfold bodyB; dsimp only; rw [h10]; rfl]
    · rw [show BodyOk _ = (OpOk a0) by unfold BodyOk; dsimp only; rw [h10]; rfl]
      exact k0
  by_cases h11 : m.kd = 11
  · rw [show gBody m = gb gI (fun a0 s => ({ m with ix := a0 }, s)) from funext fun s => by unfold gBody; rw [if_neg h1, if_neg h2, if_neg h3, if_neg h4, if_neg h5, if_neg h6, if_neg h7, if_neg h8, if_neg h9, if_neg h10, if_pos h11]]
    refine (De.bind gI_de fun _ => De.pure _).mono ?_
    rintro y l r ⟨a0, l0, k0, rfl, rfl, rfl⟩
    refine ⟨?_, ?_, rfl, rfl, rfl⟩
    · rw [show bodyB _ = encI a0 by unfold bodyB; dsimp only; rw [h11]; rfl]
    · rw [show BodyOk _ = (UpI a0) by unfold BodyOk; dsimp only; rw [h11]; rfl]
      exact k0
  by_cases h12 : m.kd = 12
  · rw [show gBody m = gb gDn (fun a0 s => ({ m with dn := a0 }, s)) from funext fun s => by unfold gBody; rw [if_neg h1, if_neg h2, if_neg h3, if_neg h4, if_neg h5, if_neg h6, if_neg h7, if_neg h8, if_neg h9, if_neg h10, if_neg h11, if_pos h12]]
    refine (De.bind gDn_de fun _ => De.pure _).mono ?_
    rintro y l r ⟨a0, l0, k0, rfl, rfl, rfl⟩
    refine ⟨?_, ?_, rfl, rfl, rfl⟩
    · rw [show bodyB _ = dnB a0 by unfold bodyB; dsimp only; rw [h12]; rfl]
    · rw [show BodyOk _ = (DnOk a0) by unfold BodyOk; dsimp only; rw [h12]; rfl]
      exact k0
  by_cases h13 : m.kd = 13
  · rw [show gBody m = gb gI (fun a0 => gb (rRow 256) (fun a1 s => ({ m with ix := a0, rp := strOfNums a1 }, s))) from funext fun s => by unfold gBody; rw [if_neg h1, if_neg h2, if_neg h3, if_neg h4, if_neg h5, if_neg h6, if_neg h7, if_neg h8, if_neg h9, if_neg h10, if_neg h11, if_neg h12, if_pos h13]]
    refine (De.bind gI_de fun _ => De.bind rRowB_de fun _ => De.pure _).mono ?_
    rintro y l r ⟨a0, l0, k0, rfl, a1, l1, k1, rfl, rfl, rfl⟩
    refine ⟨?_, ?_, rfl, rfl, rfl⟩
    · rw [show bodyB _ = encI a0 ++ (encN (bytesOf (strOfNums a1)).length ++ bytesOf (strOfNums a1)) by unfold bodyB; dsimp only; rw [h13]; rfl]
      simp only [List.append_assoc, bytesOf_str k1.2]
    · rw [show BodyOk _ = (UpI a0 ∧ ((bytesOf (strOfNums a1)).length : Int) ≤ 256) by unfold BodyOk; dsimp only; rw [h13]; rfl]
      exact ⟨k0, by rw [bytesOf_str k1.2]; exact k1.1⟩
  by_cases h14 : m.kd = 14
  · rw [show gBody m = gb gI (fun a0 => gb gI (fun a1 => gb gBa (fun a2 => gb (gList gVt) (fun a3 s => ({ m with dc := ⟨a0, a1, a2, a3⟩ }, s))))) from funext fun s => by unfold gBody; rw [if_neg h1, if_neg h2, if_neg h3, if_neg h4, if_neg h5, if_neg h6, if_neg h7, if_neg h8, if_neg h9, if_neg h10, if_neg h11, if_neg h12, if_neg h13, if_pos h14]]
    refine (De.bind gI_de fun _ => De.bind gI_de fun _ => De.bind gBa_de fun _ => De.bind (gList_de gVt_de) fun _ => De.pure _).mono ?_
    rintro y l r ⟨a0, l0, k0, rfl, a1, l1, k1, rfl, a2, l2, k2, rfl, a3, l3, k3, rfl, rfl, rfl⟩
    refine ⟨?_, ?_, rfl, rfl, rfl⟩
    · rw [show bodyB _ = dcB ⟨a0, a1, a2, a3⟩ by unfold bodyB; dsimp only; rw [h14]; rfl]
      simp only [dcB, List.append_assoc]
    · rw [show BodyOk _ = (UpI a0 ∧ UpI a1 ∧ BaOk a2 ∧ listOk VtOk a3) by unfold BodyOk; dsimp only; rw [h14]; rfl]
      exact ⟨k0, k1, k2, k3⟩
  rw [show gBody m = fun s => (m, s) from funext fun s => by unfold gBody; rw [if_neg h1, if_neg h2, if_neg h3, if_neg h4, if_neg h5, if_neg h6, if_neg h7, if_neg h8, if_neg h9, if_neg h10, if_neg h11, if_neg h12, if_neg h13, if_neg h14]]
  refine (De.pure m).mono ?_
  rintro y l r ⟨rfl, rfl⟩
  refine ⟨?_, ?_, rfl, rfl, rfl⟩
  · unfold bodyB; rw [if_neg h1, if_neg h2, if_neg h3, if_neg h4, if_neg h5, if_neg h6, if_neg h7, if_neg h8, if_neg h9, if_neg h10, if_neg h11, if_neg h12, if_neg h13, if_neg h14]; rfl
  · unfold BodyOk; rw [if_neg h1, if_neg h2, if_neg h3, if_neg h4, if_neg h5, if_neg h6, if_neg h7, if_neg h8, if_neg h9, if_neg h10, if_neg h11, if_neg h12, if_neg h13, if_neg h14]; trivial
def MgOk (x : Mg) : Prop := UpI x.kd ∧ UpI x.fr ∧ UpI x.to ∧ BodyOk x
/-- what is read was packed so -/
theorem gMg_de : De gMg (Was packB MgOk) := by
  refine (De.bind gI_de fun _ => De.bind gI_de fun _ => De.bind gI_de fun _ => bodyOk_de _).mono ?_
  rintro y l r ⟨a0, l0, k0, rfl, a1, l1, k1, rfl, a2, l2, k2, rfl, rfl, hb, e1, e2, e3⟩
  refine ⟨?_, by rw [e1]; exact k0, by rw [e2]; exact k1, by rw [e3]; exact k2, hb⟩
  simp only [packB, e1, e2, e3, List.append_assoc]
theorem gBody_ed (x : Mg) (r : List Int) (h : BodyOk x) (hk : okKd x.kd = true) : gBody (mg0 x.kd x.fr x.to) (some (bodyB x ++ r)) = (onlyM x, some r) := by
  have hq : 1 ≤ x.kd ∧ x.kd ≤ 14 := by unfold okKd at hk; simpa using hk
  unfold BodyOk at h
  unfold gBody bodyB onlyM
  by_cases h1 : x.kd = 1
  · rw [if_pos h1] at h
    have k0 := h
    rw [if_pos h1, if_pos (show (mg0 x.kd x.fr x.to).kd = 1 from h1), if_pos h1]
    simp only [gb, List.append_assoc, gCm_ed _ _ k0]
  by_cases h2 : x.kd = 2
  · rw [if_neg h1, if_pos h2] at h
    have k0 := h
    rw [if_neg h1, if_pos h2, if_neg (show ¬ (mg0 x.kd x.fr x.to).kd = 1 from h1), if_pos (show (mg0 x.kd x.fr x.to).kd = 2 from h2), if_neg h1, if_pos h2]
    simp only [gb, List.append_assoc, gSt_ed _ _ k0]
  by_cases h3 : x.kd = 3
  · rw [if_neg h1, if_neg h2, if_pos h3] at h
    have k0 := h
    rw [if_neg h1, if_neg h2, if_pos h3, if_neg (show ¬ (mg0 x.kd x.fr x.to).kd = 1 from h1), if_neg (show ¬ (mg0 x.kd x.fr x.to).kd = 2 from h2), if_pos (show (mg0 x.kd x.fr x.to).kd = 3 from h3), if_neg h1, if_neg h2, if_pos h3]
    simp only [gb, List.append_assoc, gCe_ed _ _ k0]
  by_cases h4 : x.kd = 4
  · rw [if_neg h1, if_neg h2, if_neg h3, if_pos h4] at h
    have k0 := h
    rw [if_neg h1, if_neg h2, if_neg h3, if_pos h4, if_neg (show ¬ (mg0 x.kd x.fr x.to).kd = 1 from h1), if_neg (show ¬ (mg0 x.kd x.fr x.to).kd = 2 from h2), if_neg (show ¬ (mg0 x.kd x.fr x.to).kd = 3 from h3), if_pos (show (mg0 x.kd x.fr x.to).kd = 4 from h4), if_neg h1, if_neg h2, if_neg h3, if_pos h4]
    simp only [gb, List.append_assoc, gSt_ed _ _ k0]
  by_cases h5 : x.kd = 5
  · rw [if_neg h1, if_neg h2, if_neg h3, if_neg h4, if_pos h5] at h
    obtain ⟨k0, k1, k2⟩ := h
    rw [if_neg h1, if_neg h2, if_neg h3, if_neg h4, if_pos h5, if_neg (show ¬ (mg0 x.kd x.fr x.to).kd = 1 from h1), if_neg (show ¬ (mg0 x.kd x.fr x.to).kd = 2 from h2), if_neg (show ¬ (mg0 x.kd x.fr x.to).kd = 3 from h3), if_neg (show ¬ (mg0 x.kd x.fr x.to).kd = 4 from h4), if_pos (show (mg0 x.kd x.fr x.to).kd = 5 from h5), if_neg h1, if_neg h2, if_neg h3, if_neg h4, if_pos h5]
    simp only [gb, List.append_assoc, gI_ed _ _ k0, gI_ed _ _ k1, rNum_ed _ _ k2]
  by_cases h6 : x.kd = 6
  · rw [if_neg h1, if_neg h2, if_neg h3, if_neg h4, if_neg h5, if_pos h6] at h
    have k0 := h
    rw [if_neg h1, if_neg h2, if_neg h3, if_neg h4, if_neg h5, if_pos h6, if_neg (show ¬ (mg0 x.kd x.fr x.to).kd = 1 from h1), if_neg (show ¬ (mg0 x.kd x.fr x.to).kd = 2 from h2), if_neg (show ¬ (mg0 x.kd x.fr x.to).kd = 3 from h3), if_neg (show ¬ (mg0 x.kd x.fr x.to).kd = 4 from h4), if_neg (show ¬ (mg0 x.kd x.fr x.to).kd = 5 from h5), if_pos (show (mg0 x.kd x.fr x.to).kd = 6 from h6), if_neg h1, if_neg h2, if_neg h3, if_neg h4, if_neg h5, if_pos h6]
    simp only [gb, List.append_assoc, gPm_ed _ _ k0]
  by_cases h7 : x.kd = 7
  · rw [if_neg h1, if_neg h2, if_neg h3, if_neg h4, if_neg h5, if_neg h6, if_pos h7] at h
    have k0 := h
    rw [if_neg h1, if_neg h2, if_neg h3, if_neg h4, if_neg h5, if_neg h6, if_pos h7, if_neg (show ¬ (mg0 x.kd x.fr x.to).kd = 1 from h1), if_neg (show ¬ (mg0 x.kd x.fr x.to).kd = 2 from h2), if_neg (show ¬ (mg0 x.kd x.fr x.to).kd = 3 from h3), if_neg (show ¬ (mg0 x.kd x.fr x.to).kd = 4 from h4), if_neg (show ¬ (mg0 x.kd x.fr x.to).kd = 5 from h5), if_neg (show ¬ (mg0 x.kd x.fr x.to).kd = 6 from h6), if_pos (show (mg0 x.kd x.fr x.to).kd = 7 from h7), if_neg h1, if_neg h2, if_neg h3, if_neg h4, if_neg h5, if_neg h6, if_pos h7]
    simp only [gb, List.append_assoc, gPr_ed _ _ k0]
  by_cases h8 : x.kd = 8
  · rw [if_neg h1, if_neg h2, if_neg h3, if_neg h4, if_neg h5, if_neg h6, if_neg h7, if_pos h8] at h
    have k0 := h
    rw [if_neg h1, if_neg h2, if_neg h3, if_neg h4, if_neg h5, if_neg h6, if_neg h7, if_pos h8, if_neg (show ¬ (mg0 x.kd x.fr x.to).kd = 1 from h1), if_neg (show ¬ (mg0 x.kd x.fr x.to).kd = 2 from h2), if_neg (show ¬ (mg0 x.kd x.fr x.to).kd = 3 from h3), if_neg (show ¬ (mg0 x.kd x.fr x.to).kd = 4 from h4), if_neg (show ¬ (mg0 x.kd x.fr x.to).kd = 5 from h5), if_neg (show ¬ (mg0 x.kd x.fr x.to).kd = 6 from h6), if_neg (show ¬ (mg0 x.kd x.fr x.to).kd = 7 from h7), if_pos (show (mg0 x.kd x.fr x.to).kd = 8 from h8), if_neg h1, if_neg h2, if_neg h3, if_neg h4, if_neg h5, if_neg h6, if_neg h7, if_pos h8]
    simp only [gb, List.append_assoc, gVt_ed _ _ k0]
  by_cases h9 : x.kd = 9
  · rw [if_neg h1, if_neg h2, if_neg h3, if_neg h4, if_neg h5, if_neg h6, if_neg h7, if_neg h8, if_pos h9] at h
    obtain ⟨k0, k1⟩ := h
    rw [if_neg h1, if_neg h2, if_neg h3, if_neg h4, if_neg h5, if_neg h6, if_neg h7, if_neg h8, if_pos h9, if_neg (show ¬ (mg0 x.kd x.fr x.to).kd = 1 from h1), if_neg (show ¬ (mg0 x.kd x.fr x.to).kd = 2 from h2), if_neg (show ¬ (mg0 x.kd x.fr x.to).kd = 3 from h3), if_neg (show ¬ (mg0 x.kd x.fr x.to).kd = 4 from h4), if_neg (show ¬ (mg0 x.kd x.fr x.to).kd = 5 from h5), if_neg (show ¬ (mg0 x.kd x.fr x.to).kd = 6 from h6), if_neg (show ¬ (mg0 x.kd x.fr x.to).kd = 7 from h7), if_neg (show ¬ (mg0 x.kd x.fr x.to).kd = 8 from h8), if_pos (show (mg0 x.kd x.fr x.to).kd = 9 from h9), if_neg h1, if_neg h2, if_neg h3, if_neg h4, if_neg h5, if_neg h6, if_neg h7, if_neg h8, if_pos h9]
    simp only [gb, List.append_assoc, gI_ed _ _ k0, gEn_ed _ _ k1]
  by_cases h10 : x.kd = 10
  · rw [if_neg h1, if_neg h2, if_neg h3, if_neg h4, if_neg h5, if_neg h6, if_neg h7, if_neg h8, if_neg h9, if_pos h10] at h
    have k0 := h
    rw [if_neg h1, if_neg h2, if_neg h3, if_neg h4, if_neg h5, if_neg h6, if_neg h7, if_neg h8, if_neg h9, if_pos h10, if_neg (show ¬ (mg0 x.kd x.fr x.to).kd = 1 from h1), if_neg (show ¬ (mg0 x.kd x.fr x.to).kd = 2 from h2), if_neg (show ¬ (mg0 x.kd x.fr x.to).kd = 3 from h3), if_neg (show ¬ (mg0 x.kd x.fr x.to).kd = 4 from h4), if_neg (show ¬ (mg0 x.kd x.fr x.to).kd = 5 from h5), if_neg (show ¬ (mg0 x.kd x.fr x.to).kd = 6 from h6), if_neg (show ¬ (mg0 x.kd x.fr x.to).kd = 7 from h7), if_neg (show ¬ (mg0 x.kd x.fr x.to).kd = 8 from h8), if_neg (show ¬ (mg0 x.kd x.fr x.to).kd = 9 from h9), if_pos (show (mg0 x.kd x.fr x.to).kd = 10 from h10), if_neg h1, if_neg h2, if_neg h3, if_neg h4, if_neg h5, if_neg h6, if_neg h7, if_neg h8, if_neg h9, if_pos h10]
    simp only [gb, List.append_assoc, gOp_ed _ _ k0]
  by_cases h11 : x.kd = 11
  · rw [if_neg h1, if_neg h2, if_neg h3, if_neg h4, if_neg h5, if_neg h6, if_neg h7, if_neg h8, if_neg h9, if_neg h10, if_pos h11] at h
    have k0 := h
    rw [if_neg h1, if_neg h2, if_neg h3, if_neg h4, if_neg h5, if_neg h6, if_neg h7, if_neg h8, if_neg h9, if_neg h10, if_pos h11, if_neg (show ¬ (mg0 x.kd x.fr x.to).kd = 1 from h1), if_neg (show ¬ (mg0 x.kd x.fr x.to).kd = 2 from h2), if_neg (show ¬ (mg0 x.kd x.fr x.to).kd = 3 from h3), if_neg (show ¬ (mg0 x.kd x.fr x.to).kd = 4 from h4), if_neg (show ¬ (mg0 x.kd x.fr x.to).kd = 5 from h5), if_neg (show ¬ (mg0 x.kd x.fr x.to).kd = 6 from h6), if_neg (show ¬ (mg0 x.kd x.fr x.to).kd = 7 from h7), if_neg (show ¬ (mg0 x.kd x.fr x.to).kd = 8 from h8), if_neg (show ¬ (mg0 x.kd x.fr x.to).kd = 9 from h9), if_neg (show ¬ (mg0 x.kd x.fr x.to).kd = 10 from h10), if_pos (show (mg0 x.kd x.fr x.to).kd = 11 from h11), if_neg h1, if_neg h2, if_neg h3, if_neg h4, if_neg h5, if_neg h6, if_neg h7, if_neg h8, if_neg h9, if_neg h10, if_pos h11]
    simp only [gb, List.append_assoc, gI_ed _ _ k0]
  by_cases h12 : x.kd = 12
  · rw [if_neg h1, if_neg h2, if_neg h3, if_neg h4, if_neg h5, if_neg h6, if_neg h7, if_neg h8, if_neg h9, if_neg h10, if_neg h11, if_pos h12] at h
    have k0 := h
    rw [if_neg h1, if_neg h2, if_neg h3, if_neg h4, if_neg h5, if_neg h6, if_neg h7, if_neg h8, if_neg h9, if_neg h10, if_neg h11, if_pos h12, if_neg (show ¬ (mg0 x.kd x.fr x.to).kd = 1 from h1), if_neg (show ¬ (mg0 x.kd x.fr x.to).kd = 2 from h2), if_neg (show ¬ (mg0 x.kd x.fr x.to).kd = 3 from h3), if_neg (show ¬ (mg0 x.kd x.fr x.to).kd = 4 from h4), if_neg (show ¬ (mg0 x.kd x.fr x.to).kd = 5 from h5), if_neg (show ¬ (mg0 x.kd x.fr x.to).kd = 6 from h6), if_neg (show ¬ (mg0 x.kd x.fr x.to).kd = 7 from h7), if_neg (show ¬ (mg0 x.kd x.fr x.to).kd = 8 from h8), if_neg (show ¬ (mg0 x.kd x.fr x.to).kd = 9 from h9), if_neg (show ¬ (mg0 x.kd x.fr x.to).kd = 10 from h10), if_neg (show ¬ (mg0 x.kd x.fr x.to).kd = 11 from h11), if_pos (show (mg0 x.kd x.fr x.to).kd = 12 from h12), if_neg h1, if_neg h2, if_neg h3, if_neg h4, if_neg h5, if_neg h6, if_neg h7, if_neg h8, if_neg h9, if_neg h10, if_neg h11, if_pos h12]
    simp only [gb, List.append_assoc, gDn_ed _ _ k0]
  by_cases h13 : x.kd = 13
  · rw [if_neg h1, if_neg h2, if_neg h3, if_neg h4, if_neg h5, if_neg h6, if_neg h7, if_neg h8, if_neg h9, if_neg h10, if_neg h11, if_neg h12, if_pos h13] at h
    obtain ⟨k0, k1⟩ := h
    rw [if_neg h1, if_neg h2, if_neg h3, if_neg h4, if_neg h5, if_neg h6, if_neg h7, if_neg h8, if_neg h9, if_neg h10, if_neg h11, if_neg h12, if_pos h13, if_neg (show ¬ (mg0 x.kd x.fr x.to).kd = 1 from h1), if_neg (show ¬ (mg0 x.kd x.fr x.to).kd = 2 from h2), if_neg (show ¬ (mg0 x.kd x.fr x.to).kd = 3 from h3), if_neg (show ¬ (mg0 x.kd x.fr x.to).kd = 4 from h4), if_neg (show ¬ (mg0 x.kd x.fr x.to).kd = 5 from h5), if_neg (show ¬ (mg0 x.kd x.fr x.to).kd = 6 from h6), if_neg (show ¬ (mg0 x.kd x.fr x.to).kd = 7 from h7), if_neg (show ¬ (mg0 x.kd x.fr x.to).kd = 8 from h8), if_neg (show ¬ (mg0 x.kd x.fr x.to).kd = 9 from h9), if_neg (show ¬ (mg0 x.kd x.fr x.to).kd = 10 from h10), if_neg (show ¬ (mg0 x.kd x.fr x.to).kd = 11 from h11), if_neg (show ¬ (mg0 x.kd x.fr x.to).kd = 12 from h12), if_pos (show (mg0 x.kd x.fr x.to).kd = 13 from h13), if_neg h1, if_neg h2, if_neg h3, if_neg h4, if_neg h5, if_neg h6, if_neg h7, if_neg h8, if_neg h9, if_neg h10, if_neg h11, if_neg h12, if_pos h13]
    simp only [gb, List.append_assoc, gI_ed _ _ k0, rowx k1, str_bytesOf]
  by_cases h14 : x.kd = 14
  · rw [if_neg h1, if_neg h2, if_neg h3, if_neg h4, if_neg h5, if_neg h6, if_neg h7, if_neg h8, if_neg h9, if_neg h10, if_neg h11, if_neg h12, if_neg h13, if_pos h14] at h
    obtain ⟨k0, k1, k2, k3⟩ := h
    rw [if_neg h1, if_neg h2, if_neg h3, if_neg h4, if_neg h5, if_neg h6, if_neg h7, if_neg h8, if_neg h9, if_neg h10, if_neg h11, if_neg h12, if_neg h13, if_pos h14, if_neg (show ¬ (mg0 x.kd x.fr x.to).kd = 1 from h1), if_neg (show ¬ (mg0 x.kd x.fr x.to).kd = 2 from h2), if_neg (show ¬ (mg0 x.kd x.fr x.to).kd = 3 from h3), if_neg (show ¬ (mg0 x.kd x.fr x.to).kd = 4 from h4), if_neg (show ¬ (mg0 x.kd x.fr x.to).kd = 5 from h5), if_neg (show ¬ (mg0 x.kd x.fr x.to).kd = 6 from h6), if_neg (show ¬ (mg0 x.kd x.fr x.to).kd = 7 from h7), if_neg (show ¬ (mg0 x.kd x.fr x.to).kd = 8 from h8), if_neg (show ¬ (mg0 x.kd x.fr x.to).kd = 9 from h9), if_neg (show ¬ (mg0 x.kd x.fr x.to).kd = 10 from h10), if_neg (show ¬ (mg0 x.kd x.fr x.to).kd = 11 from h11), if_neg (show ¬ (mg0 x.kd x.fr x.to).kd = 12 from h12), if_neg (show ¬ (mg0 x.kd x.fr x.to).kd = 13 from h13), if_pos (show (mg0 x.kd x.fr x.to).kd = 14 from h14), if_neg h1, if_neg h2, if_neg h3, if_neg h4, if_neg h5, if_neg h6, if_neg h7, if_neg h8, if_neg h9, if_neg h10, if_neg h11, if_neg h12, if_neg h13, if_pos h14]
    simp only [gb, List.append_assoc, dcB, gI_ed _ _ k0, gI_ed _ _ k1, gBa_ed _ _ k2, gList_ed gVt_ed _ _ k3]
  omega
/-- what was packed is read as it was, but for what its kind does not name -/
theorem gMg_ed {x : Mg} {r : List Int} (h : MgOk x) (hk : okKd x.kd = true) : gMg (some (packB x ++ r)) = (onlyM x, some r) := by
  obtain ⟨h1, h2, h3, h4⟩ := h
  simp only [gMg, gb, packB, List.append_assoc, gI_ed _ _ h1, gI_ed _ _ h2, gI_ed _ _ h3]
  exact gBody_ed x r h4 hk
/-- the message of bytes -/
noncomputable def unpackB (bs : List Int) : Option Mg := if (gMg (some bs)).2 = some [] ∧ packs (gMg (some bs)).1 = true then some (gMg (some bs)).1 else none
theorem gMg_all {bs : List Int} (hb : Bytes bs) (h : (gMg (some bs)).2 = some []) : packB (gMg (some bs)).1 = bs ∧ MgOk (gMg (some bs)).1 := by
  obtain ⟨l, e, h2⟩ := gMg_de _ _ h
  cases e
  obtain ⟨h3, h4⟩ := h2 hb
  rw [List.append_nil] at h3
  exact ⟨h3.symm, h4⟩
end Go.Proofs.Ytpnikilkcifncaa

/- Equality of commitments, names and signatures. -/
namespace Go.Proofs.Ytpnikilkcifncaa
open Go Go.RowKit Go.Gv
theorem size_run {P : Program} {T : TypeId} {n : Nat} (h : (P.info? T).map (·.size) = some n) (w : World) : (sizeOf T).run P w = .ok n w := by
  cases hq : P.info? T with
  | none => rw [hq] at h; cases h
  | some i => rw [hq] at h; simp [sizeOf, typeInfo, hq]; exact Option.some.inj h
theorem part_agg {P : Program} {T : TypeId} {n : Nat} {d : TypeDesc} (hu : P.underlying T = some d) (hd : aggDesc d = true) (h : (P.info? T).map (·.size) = some n) (cs : Array Value) (off : Nat) (w : World) : (part T cs off).run P w = .ok (.agg (cs.extract off (off + n))) w := by
  have hagg : (isAgg T).run P w = .ok true w := by
    unfold isAgg
    rw [Sem.run_bind, run_underlying hu w]
    cases d <;> simp_all [aggDesc]
  simp [part, hagg, size_run h]
theorem part_one {P : Program} {T : TypeId} {d : TypeDesc} (hu : P.underlying T = some d) (hd : aggDesc d = false) {cs : Array Value} {off : Nat} {v : Value} (hv : cs[off]? = some v) (w : World) : (part T cs off).run P w = .ok v w := by
  have hagg : (isAgg T).run P w = .ok false w := by
    unfold isAgg
    rw [Sem.run_bind, run_underlying hu w]
    cases d <;> simp_all [aggDesc]
  simp [part, hagg, hv]
end Go.Proofs.Ytpnikilkcifncaa

/- Equality of flat things (all cells are ints): they are equal where their cells are. -/
namespace Go.Proofs.Ytpnikilkcifncaa
open Go Go.RowKit Go.Gv

/-- cells that are ints of these kinds -/
def KI : List IntKind → List Value → Prop
  | [], [] => True
  | k :: ks, v :: vs => (∃ a, v = .int k a) ∧ KI ks vs
  | _, _ => False
theorem KI.len : ∀ {ks : List IntKind} {vs : List Value}, KI ks vs → vs.length = ks.length
  | [], [], _ => rfl
  | k :: ks, v :: vs, h => by simp [KI.len h.2]
  | [], v :: vs, h => h.elim
  | k :: ks, [], h => h.elim
theorem KI.append : ∀ {ks ks' : List IntKind} {a b : List Value}, KI ks a → KI ks' b → KI (ks ++ ks') (a ++ b)
  | [], ks', [], b, _, h => h
  | k :: ks, ks', v :: vs, b, h, h' => ⟨h.1, KI.append h.2 h'⟩
  | [], _, v :: vs, _, h, _ => h.elim
  | k :: ks, _, [], _, h, _ => h.elim
theorem KI.split : ∀ {ks ks' : List IntKind} {vs : List Value}, KI (ks ++ ks') vs → ∃ a b, vs = a ++ b ∧ KI ks a ∧ KI ks' b
  | [], ks', vs, h => ⟨[], vs, rfl, trivial, h⟩
  | k :: ks, ks', v :: vs, h => by
    obtain ⟨a, b, rfl, h1, h2⟩ := KI.split h.2
    exact ⟨v :: a, b, rfl, ⟨h.1, h1⟩, h2⟩
  | k :: ks, _, [], h => h.elim
theorem KI.ints {k : IntKind} : ∀ {n : Nat} {h : List Int}, h.length = n → KI (List.replicate n k) (h.map (Value.int k))
  | 0, [], _ => trivial
  | n + 1, a :: h, e => ⟨⟨a, rfl⟩, KI.ints (by simpa using e)⟩
theorem KI.rep {k : IntKind} : ∀ {n : Nat} {vs : List Value}, KI (List.replicate n k) vs → ∃ h : List Int, h.length = n ∧ vs = h.map (Value.int k)
  | 0, [], _ => ⟨[], rfl, rfl⟩
  | 0, v :: vs, h => h.elim
  | n + 1, [], h => h.elim
  | n + 1, v :: vs, h => by
    obtain ⟨a, rfl⟩ := h.1
    obtain ⟨l, e, rfl⟩ := KI.rep h.2
    exact ⟨a :: l, by simp [e], rfl⟩
def EqW (P : Program) (d : Nat) (T : TypeId) (ks : List IntKind) : Prop := ∀ (xs ys : List Value) (c : Bool) (w : World), KI ks xs → KI ks ys → (c = true ↔ xs = ys) → (Op.equalIn d T (.agg xs.toArray) (.agg ys.toArray)).run P w = .ok c w
def EqT (P : Program) (d : Nat) (T : TypeId) (ks : List IntKind) : Prop := ∀ (A B : List Value) (off : Nat) (xs ys : List Value) (c : Bool) (w : World), KI ks xs → KI ks ys → (c = true ↔ xs = ys) → (A.drop off).take ks.length = xs → (B.drop off).take ks.length = ys →
  ∃ x y, (part T A.toArray off).run P w = .ok x w ∧ (part T B.toArray off).run P w = .ok y w ∧ (Op.equalIn d T x y).run P w = .ok c w
theorem ex_bool (p : Prop) : ∃ c : Bool, (c = true ↔ p) := by
  rcases Classical.em p with h | h
  · exact ⟨true, by simp [h]⟩
  · exact ⟨false, by simp [h]⟩
theorem bool_of {c d : Bool} (h : c = true ↔ d = true) : c = d := by cases c <;> cases d <;> simp_all
variable {P : Program}
theorem drop_one {A : List Value} {off : Nat} {v : Value} (h : (A.drop off).take 1 = [v]) : A.toArray[off]? = some v := by
  have h1 : ((A.drop off).take 1)[0]? = some v := by rw [h]; rfl
  rw [List.getElem?_take, List.getElem?_drop] at h1
  simpa using h1
theorem EqT.int {d : Nat} {T : TypeId} {k : IntKind} (hu : P.underlying T = some (.int k)) : EqT P (d + 1) T [k] := by
  intro A B off xs ys c w hx hy hc ha hb
  match xs, ys, hx, hy with
  | [x], [y], ⟨⟨a, e⟩, _⟩, ⟨⟨b, e'⟩, _⟩ =>
    subst e e'
    refine ⟨_, _, part_one hu rfl (drop_one ha) w, part_one hu rfl (drop_one hb) w, ?_⟩
    rw [run_equalIn_int w d T k k a b hu, show (a == b) = c from bool_of (by rw [hc]; simp)]
theorem EqT.agg {d : Nat} {T : TypeId} {ks : List IntKind} {de : TypeDesc} (h : EqW P d T ks) (hu : P.underlying T = some de) (hd : aggDesc de = true) (hs : (P.info? T).map (·.size) = some ks.length) : EqT P d T ks := by
  intro A B off xs ys c w hx hy hc ha hb
  have e : ∀ (A : List Value), A.toArray.extract off (off + ks.length) = ((A.drop off).take ks.length).toArray := fun A => by
    apply Array.ext'
    simp [List.extract_eq_take_drop, Nat.add_sub_cancel_left]
  have p1 := part_agg hu hd hs A.toArray off w
  have p2 := part_agg hu hd hs B.toArray off w
  rw [e, ha] at p1
  rw [e, hb] at p2
  exact ⟨_, _, p1, p2, h xs ys c w hx hy hc⟩
theorem EqW.ints {d : Nat} {T e : TypeId} {n : Nat} {k : IntKind} (ht : P.underlying T = some (.array n e)) (he : P.underlying e = some (.int k)) (hs : (P.info? e).map (·.size) = some 1) : EqW P (d + 2) T (List.replicate n k) := by
  intro xs ys c w hx hy hc
  obtain ⟨a, ha, rfl⟩ := hx.rep
  obtain ⟨b, hb, rfl⟩ := hy.rep
  rw [run_equalIn_ints w d T e n ht he hs a b ha hb]
  rw [show decide (a = b) = c from bool_of (by
    rw [hc, decide_eq_true_iff]
    exact ⟨fun h => by rw [h], fun h => (List.map_inj_right (fun x y h => by injection h)).1 h⟩)]
def FsE (P : Program) (d : Nat) : Nat → List Field → List (List IntKind) → Prop
  | _, [], [] => True
  | off, f :: fs, ks :: l => f.name ≠ "_" ∧ f.offset = off ∧ EqT P d f.type ks ∧ FsE P d (off + ks.length) fs l
  | _, _, _ => False
theorem eqFields_all {d : Nat} : ∀ (fs : List Field) (l : List (List IntKind)) (pre pre' xs ys : List Value) (c : Bool) (w : World), FsE P d pre.length fs l → pre'.length = pre.length → KI l.flatten xs → KI l.flatten ys → (c = true ↔ xs = ys) →
    (Op.eqFields d (pre ++ xs).toArray (pre' ++ ys).toArray fs).run P w = .ok c w
  | [], [], pre, pre', xs, ys, c, w, _, _, hx, hy, hc => by
    match xs, ys, hx, hy, hc with
    | [], [], _, _, hc => obtain rfl : c = true := hc.2 rfl; simp [Op.eqFields]
  | [], _ :: _, _, _, _, _, _, _, h, _, _, _, _ => h.elim
  | _ :: _, [], _, _, _, _, _, _, h, _, _, _, _ => h.elim
  | f :: fs, ks :: l, pre, pre', xs, ys, c, w, ⟨h1, h2, h3, h4⟩, hp, hx, hy, hc => by
    obtain ⟨a, b, rfl, ha, hb⟩ := KI.split (by simpa using hx)
    obtain ⟨a', b', rfl, ha', hb'⟩ := KI.split (by simpa using hy)
    have la := ha.len
    have la' := ha'.len
    obtain ⟨c1, hc1⟩ := ex_bool (a = a')
    obtain ⟨c2, hc2⟩ := ex_bool (b = b')
    obtain ⟨x, y, p1, p2, q⟩ := h3 (pre ++ (a ++ b)) (pre' ++ (a' ++ b')) pre.length a a' c1 w ha ha' hc1 (by rw [List.drop_left, ← la, List.take_left]) (by rw [← hp, List.drop_left, ← la', List.take_left])
    have ih := eqFields_all fs l (pre ++ a) (pre' ++ a') b b' c2 w (by rw [List.length_append, la]; exact h4) (by rw [List.length_append, List.length_append, hp, la, la']) hb hb' hc2
    rw [List.append_assoc, List.append_assoc] at ih
    unfold Op.eqFields
    rw [if_pos h1, h2]
    simp only [Sem.run_bind, p1, p2, q, Result.andThen_ok]
    have hcc : c = (c1 && c2) := bool_of (by
      rw [hc, Bool.and_eq_true, hc1, hc2]
      exact ⟨fun h => List.append_inj h (by rw [la, la']), fun h => by rw [h.1, h.2]⟩)
    subst hcc
    cases c1
    · simp
    · simp [ih]
theorem EqW.struct {d : Nat} {T : TypeId} {fs : Array Field} (l : List (List IntKind)) (hu : P.underlying T = some (.struct fs)) (hs : P.stoodInHeld T = false) (hl : FsE P d 0 fs.toList l) : EqW P (d + 1) T l.flatten := by
  intro xs ys c w hx hy hc
  have hf : P.fieldsOf T = fs := by unfold Program.fieldsOf; rw [hu]
  rw [run_equalIn_struct w d T xs.toArray ys.toArray (by rw [hf]; exact hu) hs, hf]
  exact eqFields_all fs.toList l [] [] xs ys c w hl rfl hx hy hc
theorem EqW.run {T : TypeId} {ks : List IntKind} (h : EqW P 10000 T ks) {xs ys : List Value} (hx : KI ks xs) (hy : KI ks ys) {c : Bool} (hc : c = true ↔ xs = ys) (w : World) : (binOp .eql T (.agg xs.toArray) (.agg ys.toArray)).run P w = .ok (.bool (c)) w := by
  rw [run_eql_struct, h xs ys c w hx hy hc]
  rfl
end Go.Proofs.Ytpnikilkcifncaa

/- Whether two things are one, in plain words. -/
namespace Go.Proofs.Ytpnikilkcifncaa
open Go Go.RowKit Go.Gv


end Go.Proofs.Ytpnikilkcifncaa
