/- gavelref01.turn; gavelref01.Sum: the same plain sum. -/
import Derived.Test.YtgnmdnmmemdemaaSha6
import Derived.Test.YtgnmdnmmemdemaaVal
import Derived.Deep.Cut
set_option maxRecDepth 100000
set_option linter.unusedVariables false
namespace Go.Proofs.Ytgnmdnmmemdemaa
open Go Go.RowKit Go.Gv

theorem bits_or_comm (k : IntKind) (a b : Int) : bits .or k a b = bits .or k b a := by
  simp only [bits, BitVec.or_comm]
theorem TN_7 (x : Int) (w : World) : Calls Try.prog 83 #[wv x, .int .u64 7] w fun e w' => e = .returned (wv (rr 7 x)) ∧ w = w' := by
  have hr : rr 7 x = bits .or .u32 (x / 128) (IntKind.u32.wrap (x * 33554432)) := by rw [bits_or_comm]; rfl
  have HR := Lib.hid hr
  clear hr
  go_enter Try.func83, Try.ntmps83
  go_wp2
  go_ret
  exact ⟨ret_int (by rw [HR.out]; rfl), rfl⟩
theorem TN_18 (x : Int) (w : World) : Calls Try.prog 83 #[wv x, .int .u64 18] w fun e w' => e = .returned (wv (rr 18 x)) ∧ w = w' := by
  have hr : rr 18 x = bits .or .u32 (x / 262144) (IntKind.u32.wrap (x * 16384)) := by rw [bits_or_comm]; rfl
  have HR := Lib.hid hr
  clear hr
  go_enter Try.func83, Try.ntmps83
  go_wp2
  go_ret
  exact ⟨ret_int (by rw [HR.out]; rfl), rfl⟩
theorem TN_17 (x : Int) (w : World) : Calls Try.prog 83 #[wv x, .int .u64 17] w fun e w' => e = .returned (wv (rr 17 x)) ∧ w = w' := by
  have hr : rr 17 x = bits .or .u32 (x / 131072) (IntKind.u32.wrap (x * 32768)) := by rw [bits_or_comm]; rfl
  have HR := Lib.hid hr
  clear hr
  go_enter Try.func83, Try.ntmps83
  go_wp2
  go_ret
  exact ⟨ret_int (by rw [HR.out]; rfl), rfl⟩
theorem TN_19 (x : Int) (w : World) : Calls Try.prog 83 #[wv x, .int .u64 19] w fun e w' => e = .returned (wv (rr 19 x)) ∧ w = w' := by
  have hr : rr 19 x = bits .or .u32 (x / 524288) (IntKind.u32.wrap (x * 8192)) := by rw [bits_or_comm]; rfl
  have HR := Lib.hid hr
  clear hr
  go_enter Try.func83, Try.ntmps83
  go_wp2
  go_ret
  exact ⟨ret_int (by rw [HR.out]; rfl), rfl⟩
theorem TN_6 (x : Int) (w : World) : Calls Try.prog 83 #[wv x, .int .u64 6] w fun e w' => e = .returned (wv (rr 6 x)) ∧ w = w' := by
  have hr : rr 6 x = bits .or .u32 (x / 64) (IntKind.u32.wrap (x * 67108864)) := by rw [bits_or_comm]; rfl
  have HR := Lib.hid hr
  clear hr
  go_enter Try.func83, Try.ntmps83
  go_wp2
  go_ret
  exact ⟨ret_int (by rw [HR.out]; rfl), rfl⟩
theorem TN_11 (x : Int) (w : World) : Calls Try.prog 83 #[wv x, .int .u64 11] w fun e w' => e = .returned (wv (rr 11 x)) ∧ w = w' := by
  have hr : rr 11 x = bits .or .u32 (x / 2048) (IntKind.u32.wrap (x * 2097152)) := by rw [bits_or_comm]; rfl
  have HR := Lib.hid hr
  clear hr
  go_enter Try.func83, Try.ntmps83
  go_wp2
  go_ret
  exact ⟨ret_int (by rw [HR.out]; rfl), rfl⟩
theorem TN_25 (x : Int) (w : World) : Calls Try.prog 83 #[wv x, .int .u64 25] w fun e w' => e = .returned (wv (rr 25 x)) ∧ w = w' := by
  have hr : rr 25 x = bits .or .u32 (x / 33554432) (IntKind.u32.wrap (x * 128)) := by rw [bits_or_comm]; rfl
  have HR := Lib.hid hr
  clear hr
  go_enter Try.func83, Try.ntmps83
  go_wp2
  go_ret
  exact ⟨ret_int (by rw [HR.out]; rfl), rfl⟩
theorem TN_2 (x : Int) (w : World) : Calls Try.prog 83 #[wv x, .int .u64 2] w fun e w' => e = .returned (wv (rr 2 x)) ∧ w = w' := by
  have hr : rr 2 x = bits .or .u32 (x / 4) (IntKind.u32.wrap (x * 1073741824)) := by rw [bits_or_comm]; rfl
  have HR := Lib.hid hr
  clear hr
  go_enter Try.func83, Try.ntmps83
  go_wp2
  go_ret
  exact ⟨ret_int (by rw [HR.out]; rfl), rfl⟩
theorem TN_13 (x : Int) (w : World) : Calls Try.prog 83 #[wv x, .int .u64 13] w fun e w' => e = .returned (wv (rr 13 x)) ∧ w = w' := by
  have hr : rr 13 x = bits .or .u32 (x / 8192) (IntKind.u32.wrap (x * 524288)) := by rw [bits_or_comm]; rfl
  have HR := Lib.hid hr
  clear hr
  go_enter Try.func83, Try.ntmps83
  go_wp2
  go_ret
  exact ⟨ret_int (by rw [HR.out]; rfl), rfl⟩
theorem TN_22 (x : Int) (w : World) : Calls Try.prog 83 #[wv x, .int .u64 22] w fun e w' => e = .returned (wv (rr 22 x)) ∧ w = w' := by
  have hr : rr 22 x = bits .or .u32 (x / 4194304) (IntKind.u32.wrap (x * 1024)) := by rw [bits_or_comm]; rfl
  have HR := Lib.hid hr
  clear hr
  go_enter Try.func83, Try.ntmps83
  go_wp2
  go_ret
  exact ⟨ret_int (by rw [HR.out]; rfl), rfl⟩
end Go.Proofs.Ytgnmdnmmemdemaa
