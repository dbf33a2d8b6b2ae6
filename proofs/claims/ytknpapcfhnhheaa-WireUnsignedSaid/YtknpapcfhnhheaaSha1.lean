/- SHA-256 in plain words, as the program's own operations spell it; bits.RotateLeft32 and sha.word. -/
import Derived.Test.YtknpapcfhnhheaaBytes
import Derived.IntWalk
set_option maxRecDepth 100000
set_option linter.unusedVariables false
namespace Go.Proofs.Ytknpapcfhnhheaa
open Go Go.RowKit Go.Gv

abbrev wv (x : Int) : Value := .int .u32 x
/-- a word turned to the right -/
def rr (n : Nat) (x : Int) : Int := bits .or .u32 (IntKind.u32.wrap (x * 2 ^ (32 - n))) (x / 2 ^ n)
def xr (a b : Int) : Int := bits .xor .u32 a b
def an (a b : Int) : Int := bits .and .u32 a b
def pl (a b : Int) : Int := (a + b) % 4294967296
def wordOf (a b c d : Int) : Int := bits .or .u32 (bits .or .u32 (bits .or .u32 (a % 4294967296 * 16777216 % 4294967296) (b % 4294967296 * 65536 % 4294967296)) (c % 4294967296 * 256 % 4294967296)) (d % 4294967296)

theorem RL_7 (x : Int) (w : World) : Calls Try.prog 156 #[wv x, .int .i64 (-7)] w fun e w' => e = .returned (wv (rr 7 x)) ∧ w = w' := by
  have hr : rr 7 x = bits .or .u32 (IntKind.u32.wrap (x * 33554432)) (x / 128) := rfl
  have HR := Lib.hid hr
  clear hr
  have hs : bits .and .u64 (IntKind.u64.wrap (-7)) 31 = 25 := by decide +kernel
  go_enter Try.func156, Try.ntmps156
  go_wp2
  go_ret
  exact ⟨ret_int (by rw [HR.out]; rfl), rfl⟩
theorem RL_18 (x : Int) (w : World) : Calls Try.prog 156 #[wv x, .int .i64 (-18)] w fun e w' => e = .returned (wv (rr 18 x)) ∧ w = w' := by
  have hr : rr 18 x = bits .or .u32 (IntKind.u32.wrap (x * 16384)) (x / 262144) := rfl
  have HR := Lib.hid hr
  clear hr
  have hs : bits .and .u64 (IntKind.u64.wrap (-18)) 31 = 14 := by decide +kernel
  go_enter Try.func156, Try.ntmps156
  go_wp2
  go_ret
  exact ⟨ret_int (by rw [HR.out]; rfl), rfl⟩
theorem RL_17 (x : Int) (w : World) : Calls Try.prog 156 #[wv x, .int .i64 (-17)] w fun e w' => e = .returned (wv (rr 17 x)) ∧ w = w' := by
  have hr : rr 17 x = bits .or .u32 (IntKind.u32.wrap (x * 32768)) (x / 131072) := rfl
  have HR := Lib.hid hr
  clear hr
  have hs : bits .and .u64 (IntKind.u64.wrap (-17)) 31 = 15 := by decide +kernel
  go_enter Try.func156, Try.ntmps156
  go_wp2
  go_ret
  exact ⟨ret_int (by rw [HR.out]; rfl), rfl⟩
theorem RL_19 (x : Int) (w : World) : Calls Try.prog 156 #[wv x, .int .i64 (-19)] w fun e w' => e = .returned (wv (rr 19 x)) ∧ w = w' := by
  have hr : rr 19 x = bits .or .u32 (IntKind.u32.wrap (x * 8192)) (x / 524288) := rfl
  have HR := Lib.hid hr
  clear hr
  have hs : bits .and .u64 (IntKind.u64.wrap (-19)) 31 = 13 := by decide +kernel
  go_enter Try.func156, Try.ntmps156
  go_wp2
  go_ret
  exact ⟨ret_int (by rw [HR.out]; rfl), rfl⟩
theorem RL_6 (x : Int) (w : World) : Calls Try.prog 156 #[wv x, .int .i64 (-6)] w fun e w' => e = .returned (wv (rr 6 x)) ∧ w = w' := by
  have hr : rr 6 x = bits .or .u32 (IntKind.u32.wrap (x * 67108864)) (x / 64) := rfl
  have HR := Lib.hid hr
  clear hr
  have hs : bits .and .u64 (IntKind.u64.wrap (-6)) 31 = 26 := by decide +kernel
  go_enter Try.func156, Try.ntmps156
  go_wp2
  go_ret
  exact ⟨ret_int (by rw [HR.out]; rfl), rfl⟩
theorem RL_11 (x : Int) (w : World) : Calls Try.prog 156 #[wv x, .int .i64 (-11)] w fun e w' => e = .returned (wv (rr 11 x)) ∧ w = w' := by
  have hr : rr 11 x = bits .or .u32 (IntKind.u32.wrap (x * 2097152)) (x / 2048) := rfl
  have HR := Lib.hid hr
  clear hr
  have hs : bits .and .u64 (IntKind.u64.wrap (-11)) 31 = 21 := by decide +kernel
  go_enter Try.func156, Try.ntmps156
  go_wp2
  go_ret
  exact ⟨ret_int (by rw [HR.out]; rfl), rfl⟩
theorem RL_25 (x : Int) (w : World) : Calls Try.prog 156 #[wv x, .int .i64 (-25)] w fun e w' => e = .returned (wv (rr 25 x)) ∧ w = w' := by
  have hr : rr 25 x = bits .or .u32 (IntKind.u32.wrap (x * 128)) (x / 33554432) := rfl
  have HR := Lib.hid hr
  clear hr
  have hs : bits .and .u64 (IntKind.u64.wrap (-25)) 31 = 7 := by decide +kernel
  go_enter Try.func156, Try.ntmps156
  go_wp2
  go_ret
  exact ⟨ret_int (by rw [HR.out]; rfl), rfl⟩
theorem RL_2 (x : Int) (w : World) : Calls Try.prog 156 #[wv x, .int .i64 (-2)] w fun e w' => e = .returned (wv (rr 2 x)) ∧ w = w' := by
  have hr : rr 2 x = bits .or .u32 (IntKind.u32.wrap (x * 1073741824)) (x / 4) := rfl
  have HR := Lib.hid hr
  clear hr
  have hs : bits .and .u64 (IntKind.u64.wrap (-2)) 31 = 30 := by decide +kernel
  go_enter Try.func156, Try.ntmps156
  go_wp2
  go_ret
  exact ⟨ret_int (by rw [HR.out]; rfl), rfl⟩
theorem RL_13 (x : Int) (w : World) : Calls Try.prog 156 #[wv x, .int .i64 (-13)] w fun e w' => e = .returned (wv (rr 13 x)) ∧ w = w' := by
  have hr : rr 13 x = bits .or .u32 (IntKind.u32.wrap (x * 524288)) (x / 8192) := rfl
  have HR := Lib.hid hr
  clear hr
  have hs : bits .and .u64 (IntKind.u64.wrap (-13)) 31 = 19 := by decide +kernel
  go_enter Try.func156, Try.ntmps156
  go_wp2
  go_ret
  exact ⟨ret_int (by rw [HR.out]; rfl), rfl⟩
theorem RL_22 (x : Int) (w : World) : Calls Try.prog 156 #[wv x, .int .i64 (-22)] w fun e w' => e = .returned (wv (rr 22 x)) ∧ w = w' := by
  have hr : rr 22 x = bits .or .u32 (IntKind.u32.wrap (x * 1024)) (x / 4194304) := rfl
  have HR := Lib.hid hr
  clear hr
  have hs : bits .and .u64 (IntKind.u64.wrap (-22)) 31 = 10 := by decide +kernel
  go_enter Try.func156, Try.ntmps156
  go_wp2
  go_ret
  exact ⟨ret_int (by rw [HR.out]; rfl), rfl⟩

theorem word_any (v : Value) (a b c d : Int) (bs : List Int) (w : World) (h : RdB w v (a :: b :: c :: d :: bs)) :
    Calls Try.prog 158 #[v] w fun e w' => e = .returned (wv (wordOf a b c d)) ∧ ∃ n, w' = w.drewN n := by
  obtain ⟨ao, cap, rfl, hc, hm⟩ := h.shape
  rcases h.form with ⟨h0, _⟩ | ⟨g, o, cap', _, hv, h1, h2, hcell⟩
  · cases h0
  simp only [Value.slice.injEq] at hv
  obtain ⟨rfl, _, rfl⟩ := hv
  have c0 := hcell 0 (by simp)
  have c1 := hcell 1 (by simp)
  have c2 := hcell 2 (by simp)
  have c3 := hcell 3 (by simp)
  simp only [List.getElem_cons_zero, List.getElem_cons_succ, Nat.add_zero] at c0 c1 c2 c3
  have hw : wordOf a b c d = bits .or .u32 (bits .or .u32 (bits .or .u32 (a % 4294967296 * 16777216 % 4294967296) (b % 4294967296 * 65536 % 4294967296)) (c % 4294967296 * 256 % 4294967296)) (d % 4294967296) := rfl
  have HW := Lib.hid hw
  simp only [List.length_cons] at hc ⊢
  generalize bs.length = n at *
  clear hw h hcell h1 h2 hm
  go_enter Try.func158, Try.ntmps158
  go_wp2
  go_quiet (fail)
  go_wp2
  go_ret
  exact ⟨ret_int (by rw [HW.out]), ⟨_, rfl⟩⟩
end Go.Proofs.Ytknpapcfhnhheaa
